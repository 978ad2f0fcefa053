/-
  The law of this claim, a further part of its proof (2): the parts Sr11, Sr12, Sr13, PkFc, PkEq, PkCf, PkFd, PkFw.
-/
import Derived.Test.YtcbmnfjbmkpfiaaU64
import Derived.Lib.SliceRun
import Derived.Lib.SlicesCompact
import Derived.Test.YtcbmnfjbmkpfiaaPkFa
import Derived.Test.YtcbmnfjbmkpfiaaPkFb
import Derived.Test.YtcbmnfjbmkpfiaaPkW
import Derived.Test.YtcbmnfjbmkpfiaaLkA
import Derived.BigQuiet
import Derived.Test.YtcbmnfjbmkpfiaaPkF
import Derived.Test.YtcbmnfjbmkpfiaaPkK
import Derived.Test.YtcbmnfjbmkpfiaaPkV
import Derived.Test.YtcbmnfjbmkpfiaaQPF1
/- slices.Sort at numbers, of a row of one's own, or of no row. -/
namespace Go.Proofs.Ytcbmnfjbmkpfiaa
open Go.ChangeShapes Go.WideShapes Go.ChangeAt Go.RowKit
set_option linter.unusedVariables false
def Idle (w : World) (e : Ending) (w' : World) : Prop := e = .returned (.tuple #[]) ∧ w = w'
theorem sins_nil (A : Option Addr) (c : Nat) (w : World) : Calls Try.prog 81 #[.slice A 0 c, .int .i64 0, .int .i64 0] w fun e w' => e = .returned (.tuple #[]) ∧ w = w' := by
  go_enter Try.func81, Try.ntmps81
  go_wp2_with fail
  go_loopw [6] (fun vi wr => vi = .int .i64 1 ∧ w = wr) (fun _ _ => 0)
  case atStart => exact ⟨by go_num, rfl⟩
  case round =>
    obtain ⟨rfl, rfl⟩ := hrel
    go_wp2_with fail
    go_end0
    exact ⟨rfl, rfl⟩
set_option maxRecDepth 100000 in
theorem spdq_nil (A : Option Addr) (c k : Nat) (w : World) : Calls Try.prog 74 #[.slice A 0 c, .int .i64 0, .int .i64 0, .int .i64 k] w (Idle w) := by
  go_enter Try.func74, Try.ntmps74
  go_wp2_with fail
  go_loopw [1, 2, 3, 8, 9] (fun va vb vl vwb vwp wr => va = .int .i64 0 ∧ vb = .int .i64 0 ∧ w = wr) (fun _ _ _ _ _ _ => 0)
  case atStart => exact ⟨rfl, rfl, rfl⟩
  case round =>
    obtain ⟨rfl, rfl, rfl⟩ := hrel
    go_wp2_with fail
    refine (sins_nil A c _).mono ?_; rintro e w1 ⟨rfl, rfl⟩
    go_wp2_with fail
    go_end0
    exact ⟨rfl, rfl⟩
theorem ssort_nil (A : Option Addr) (c : Nat) (w : World) : Calls Try.prog 56 #[.slice A 0 c] w fun e w' => e = .returned (.tuple #[]) ∧ w = w' := by
  go_enter Try.func56, Try.ntmps56
  go_wp2_with fail
  refine (len_any 0 _ (by decide)).mono ?_; rintro e w1 ⟨rfl, rfl⟩
  go_wp2_with fail
  refine (spdq_nil A c _ _).mono ?_; rintro e w1 ⟨rfl, rfl⟩
  go_wp2_with fail
  go_end0
  exact ⟨rfl, rfl⟩
theorem ssort_any {blk off c n : Nat} {d : Array Int} {w : World} (hH : Sort.Holds eu w blk off d) (hl : blk < w.heap.size) (hn : d.size = n) (hsz : n < 65536) :
    Calls Try.prog 56 #[.slice (some ⟨blk, off, none⟩) n c] w (SortsIn w blk off 0 n d) := by
  have hp := fun k hk => spdq_ind n hsz blk off c n w d 0 n k (by omega) hH hl hn (Nat.zero_le _) (Nat.le_refl _) hk (Or.inl rfl)
  have HP := Lib.hid hp
  have hle : Lib.bitLen n ≤ 64 := Nat.le_trans (Lib.bitLen_le n 16 (by decide) (by omega)) (by decide)
  have HLE := Lib.hid hle
  obtain ⟨k, hk⟩ : ∃ k, k = Lib.bitLen n := ⟨_, rfl⟩
  have hlen : ∀ w, Calls Try.prog 75 #[.int .u64 n] w fun e w' => e = .returned (.int .i64 (k : Int)) ∧ w' = w := fun w => by rw [hk]; exact len_any n w hsz
  rw [← hk] at HLE
  have HL := Lib.hid hlen
  have hnn : (n : Int) < 65536 := by omega
  clear hp hle hlen hk hH hl hn
  go_enter Try.func56, Try.ntmps56
  go_wp2_with fail
  refine (HL.out _).mono ?_; rintro e w1 ⟨rfl, rfl⟩
  go_wp2_with fail
  refine (HP.out k HLE.out).mono ?_; rintro e w1 ⟨d', rfl, h1, h2, h3⟩
  have H1 := Lib.hid h1
  have H2 := Lib.hid h2
  have H3 := Lib.hid h3
  clear h1 h2 h3
  go_wp2_with fail
  go_end0
  exact ⟨d', rfl, H1.out, H2.out, H3.out⟩
/-- The numbers of a list, as the sort has them. -/
def arrOf (l : List Nat) : Array Int := (l.map (fun (x : Nat) => (x : Int))).toArray
theorem arr_size (l : List Nat) : (arrOf l).size = l.length := by simp [arrOf]
theorem arr_at {l : List Nat} {i x : Nat} (h : l[i]? = some x) : (arrOf l)[i]! = (x : Int) := by
  have hi := (List.getElem?_eq_some_iff.1 h).1
  rw [getElem!_pos _ i (by rw [arr_size]; exact hi)]
  simp only [arrOf, List.getElem_toArray, List.getElem_map]
  rw [(List.getElem?_eq_some_iff.1 h).2]
theorem arr_toList (l : List Nat) : (arrOf l).toList = l.map (fun (x : Nat) => (x : Int)) := by simp [arrOf]
/-- A sorted permutation is the list that comes of sorting. -/
theorem sorted_list {l : List Nat} {d' : Array Int} (hp : Sort.PermIn 0 l.length (arrOf l) d') (hs : Sort.SortedIn lti 0 l.length d') :
    ∃ l' : List Nat, d' = arrOf l' ∧ l'.Perm l ∧ l'.Pairwise (· ≤ ·) := by
  have hsz : d'.size = l.length := by rw [hp.1, arr_size]
  have hperm : d'.toList.Perm (l.map (fun (x : Nat) => (x : Int))) := by
    have h := hp.2.2
    rw [Array.extract_eq_self_of_le (by rw [hsz]; exact Nat.le_refl _), Array.extract_eq_self_of_le (by rw [arr_size]; exact Nat.le_refl _), arr_toList] at h
    exact h
  have hnat : ∀ y ∈ d'.toList, ∃ x : Nat, y = (x : Int) := fun y hy => by
    obtain ⟨x, _, rfl⟩ := List.mem_map.1 (hperm.mem_iff.1 hy)
    exact ⟨x, rfl⟩
  have hback : d'.toList = (d'.toList.map Int.toNat).map (fun (x : Nat) => (x : Int)) := by
    rw [List.map_map]
    have e : d'.toList.map ((fun (x : Nat) => (x : Int)) ∘ Int.toNat) = d'.toList.map id := List.map_congr_left (fun y hy => by
      obtain ⟨x, rfl⟩ := hnat y hy
      simp)
    rw [e, List.map_id]
  refine ⟨d'.toList.map Int.toNat, ?_, ?_, ?_⟩
  · unfold arrOf
    rw [← hback]
  · have h := hperm.map Int.toNat
    rw [List.map_map] at h
    have e : l.map (Int.toNat ∘ fun (x : Nat) => (x : Int)) = l := by
      conv => rhs; rw [← List.map_id l]
      exact List.map_congr_left fun x _ => by simp
    rw [e] at h
    exact h
  · rw [List.pairwise_map, List.pairwise_iff_getElem]
    intro i j hi hj hij
    have h := hs i j (Nat.zero_le _) hij (by rw [← hsz]; simpa using hj)
    rw [getElem!_pos _ j (by simpa using hj), getElem!_pos _ i (by simpa using hi)] at h
    have h' : ¬ d'[j] < d'[i] := by simpa [Sort.ltInt] using h
    simp only [Array.getElem_toList]
    omega
section
variable {w w' : World} {base n c : Nat} {A : Option Addr} {l : List Nat}
theorem uv_holds {g : Nat} {cur : Array Value} {e : TypeId} (hb : Blk w g e cur) (ht : cur.toList.take l.length = l.map uv) : Sort.Holds eu w g 0 (arrOf l) := fun t htt => by
  rw [arr_size] at htt
  refine ⟨?_, by rw [Nat.zero_add]; exact hb.frozen t⟩
  rw [Nat.zero_add, hb.cell]
  have h1 : (l.map uv)[t]? = some (uv l[t]) := by rw [List.getElem?_map, List.getElem?_eq_getElem htt]; rfl
  rw [← ht, List.getElem?_take, if_pos htt] at h1
  have h2 : cur[t]? = some (uv l[t]) := by simpa using h1
  rw [h2, arr_at (List.getElem?_eq_getElem htt)]
  rfl
/-- What a sort makes of a row of one's own. -/
theorem SW.own {g : Nat} {l' : List Nat} {e : TypeId} (h : SW w w' g 0 (arrOf l) (arrOf l')) (ho : w.ownsRow base e 1 (.slice (some ⟨g, 0, none⟩) n c) n (l.map uv)) : w'.ownsRow base e 1 (.slice (some ⟨g, 0, none⟩) n c) n (l'.map uv) := by
  have hsz : l'.length = l.length := by have := h.sz; rwa [arr_size, arr_size] at this
  have hn : l.length = n := by have := ho.1; simpa using this
  refine ⟨by have := ho.1; simpa [hsz] using this, ?_⟩
  rcases ho.2 with ⟨hv, h0⟩ | ⟨q, cap, cur, hv, hq, hh, hnc, hcm, hcs, htake⟩
  · injection hv with h1; cases h1
  · injection hv with h1 _ h3
    injection h1 with h1
    injection h1 with h1
    subst h1; subst h3
    rw [Nat.mul_one] at htake hcs
    have hrow := h.row
    refine .inr ⟨g, c, Sort.putCells eu 0 (arrOf l') cur, rfl, hq, ?_, hnc, hcm, by simpa [Sort.putCells] using hcs, ?_⟩
    · rw [hrow]
      unfold Sort.putRow Sort.mapBlock
      simp only [Array.getElem?_modify, if_true, hh]
      rfl
    · apply List.ext_getElem?
      intro i
      rw [Nat.mul_one, List.getElem?_take]
      by_cases hi : i < n
      · rw [if_pos hi, List.getElem?_map, List.getElem?_eq_getElem (show i < l'.length by omega)]
        have hcl : i < cur.size := by
          have h2 := congrArg List.length htake
          simp only [List.length_take, List.length_map, Array.length_toList] at h2
          omega
        simp only [Sort.putCells, Array.getElem?_toList, Array.getElem?_mapIdx, Array.getElem?_eq_getElem hcl, Option.map_some]
        rw [if_pos ⟨Nat.zero_le _, by rw [arr_size]; omega⟩, Nat.sub_zero, arr_at (List.getElem?_eq_getElem (show i < l'.length by omega))]
        rfl
      · rw [if_neg hi, List.getElem?_map, List.getElem?_eq_none (show l'.length ≤ i by omega)]
        rfl
/-- What slices.Sort ends in. -/
def Sorted (w : World) (base : Nat) (A : Option Addr) (n c : Nat) (l : List Nat) (e : Ending) (w' : World) : Prop :=
  ∃ l' : List Nat, e = .returned (.tuple #[]) ∧ l'.Perm l ∧ l'.Pairwise (· ≤ ·) ∧ w'.ownsRow base 22 1 (.slice A n c) n (l'.map uv) ∧ Chg (fun k => some k = (Value.slice A n c).ownBlock) w w'
theorem sort_own (h : w.ownsRow base 22 1 (.slice A n c) n (l.map uv)) (hn : n < 65536) : Calls Try.prog 56 #[.slice A n c] w (Sorted w base A n c l) := by
  have hlen : l.length = n := by have := h.1; simpa using this
  rcases Nat.eq_zero_or_pos n with h0 | h0
  · subst h0
    obtain rfl := List.eq_nil_of_length_eq_zero hlen
    exact (ssort_nil A c w).mono fun e w' ⟨he, hw⟩ => ⟨[], he, List.Perm.refl _, List.Pairwise.nil, hw ▸ h, hw ▸ Chg.refl _ _⟩
  · rcases h.2 with ⟨_, hx⟩ | ⟨q, cap, cur, hv, hq, hh, hnc, hcm, hcs, htake⟩
    · omega
    · injection hv with h1 _ h3
      subst h1; subst h3
      rw [Nat.mul_one] at htake
      have hb : Blk w q 22 cur := hh
      have hH := uv_holds hb (by rw [hlen]; exact htake)
      refine (ssort_any hH hb.lt (by rw [arr_size]; exact hlen) hn).mono ?_
      rintro e w' ⟨d', rfl, h1, h2, h3⟩
      rw [← hlen] at h2 h3
      obtain ⟨l', rfl, hp, hs⟩ := sorted_list h2 h3
      exact ⟨l', rfl, hp, hs, h1.own h, h1.ch.more fun k _ hk => by rw [show k = q from hk]; rfl⟩
end
end Go.Proofs.Ytcbmnfjbmkpfiaa
/- slices.Compact at numbers. -/
namespace Go.Proofs.Ytcbmnfjbmkpfiaa
open Go.ChangeShapes Go.WideShapes Go.ChangeAt Go.RowKit
set_option linter.unusedVariables false
section
variable {w0 w w1 w2 : World} {blk off : Nat} {d0 d d1 d2 : Array Int}
/-- One place changes its number. -/
theorem SW.set (h : SW w0 w1 blk off d0 d1) {i : Nat} (hi : i < d1.size) (x : Int) {w : World} (hw : w.heap = w1.heap) (ho : w.os = w1.os) (ht : w.tape = w1.tape) (hu : w.output = w1.output) :
    SW w0 (w.setCell ⟨blk, off + i, none⟩ (.int .u64 x)) blk off d0 (d1.setIfInBounds i x) := by
  have hc : Chg (fun k => k = blk) w1 w := ⟨ho, ht, hu, by rw [hw]; exact Nat.le_refl _, fun k _ _ => by rw [hw]⟩
  refine ⟨h.h0, h.lt, by simpa using h.sz, (h.ch.trans hc).setCell (.inl rfl) _, ?_⟩
  rw [← Sort.putRow_set eu w0 blk off d1 i x hi]
  exact setCell_at (a := ⟨blk, off + i, none⟩) (by rw [hw]; exact h.row) _
theorem SW.clear : ∀ (r i : Nat) (w1 : World) (d1 : Array Int), SW w0 w1 blk off d0 d1 → i + r ≤ d1.size →
    ∃ d2, SW w0 (w1.setCells blk (off + i) (List.replicate r (.int .u64 0))) blk off d0 d2 ∧ ∀ j, j < i → d2[j]! = d1[j]!
  | 0, i, w1, d1, h, _ => ⟨d1, h, fun _ _ => rfl⟩
  | r + 1, i, w1, d1, h, hi => by
    have h1 := h.set (i := i) (by omega) 0 (w := w1) rfl rfl rfl rfl
    obtain ⟨d2, h2, h3⟩ := SW.clear r (i + 1) _ _ h1 (by simp; omega)
    refine ⟨d2, ?_, fun j hj => ?_⟩
    · rw [List.replicate_succ]
      exact h2
    · rw [h3 j (by omega), Sort.getElem!_set_other _ _ _ _ (by omega)]
end
theorem elemN8 : Elem Try.prog 48 22 1 8 := Elem.of (z := .int .u64 0) Try.underlying48 (by kernel_rfl) rfl (by decide)
/-- What slices.Compact ends in. -/
def Cpt (w : World) (blk off c n : Nat) (d : Array Int) (e : Ending) (w' : World) : Prop :=
  ∃ d', e = .returned (.slice (some ⟨blk, off, none⟩) (Lib.compactUpTo d n).length c) ∧ SW w w' blk off d d' ∧ ∀ j, j < (Lib.compactUpTo d n).length → (Lib.compactUpTo d n)[j]? = some d'[j]!
theorem cpt_le (d : Array Int) (n : Nat) : (Lib.compactUpTo d n).length ≤ n := by
  unfold Lib.compactUpTo
  rw [List.length_map]
  exact Nat.le_trans (List.length_filter_le _ _) (by simp)
theorem cpt_same {d : Array Int} {n : Nat} (h : ∀ j, j < n → Lib.keeps d j = true) : (Lib.compactUpTo d n).length = n ∧ ∀ j, j < n → (Lib.compactUpTo d n)[j]? = some d[j]! := by
  rw [Lib.compactUpTo_all d n h]
  refine ⟨by simp, fun j hj => ?_⟩
  simp [hj]
set_option maxRecDepth 100000 in
set_option maxHeartbeats 4000000 in
theorem compact_row {blk off c n : Nat} {d : Array Int} {w : World} (hH : Sort.Holds eu w blk off d) (hl : blk < w.heap.size) (hn : d.size = n) (hsz : n < 65536) (h2 : 2 ≤ n) (hnc : n ≤ c) (hcm : c ≤ maxLen) :
    Calls Try.prog 54 #[.slice (some ⟨blk, off, none⟩) n c] w (Cpt w blk off c n d) := by
  have HS := Lib.hid (SW.refl hH hl)
  have HN := Lib.hid hn
  have hd2 : decide ((n : Int) < 2) = false := by simp; omega
  unfold maxLen at hcm
  clear hn hH hl
  go_enter Try.func54, Try.ntmps54
  go_wp2_with fail
  go_loopw [3] (fun vk wr => ∃ k : Nat, 1 ≤ k ∧ k ≤ n ∧ vk = .int .i64 k ∧ Hid (SW w wr blk off d d) ∧ Hid (∀ j, j < k → Lib.keeps d j = true)) (fun vk _ => n - (intOf vk).toNat)
  case atStart => exact ⟨1, Nat.le_refl _, by omega, rfl, HS, Lib.keeps_lt_one d⟩
  case round =>
    obtain ⟨k, hk1, hkn, rfl, hsw, hke⟩ := hrel
    by_cases hlt : k < n
    case neg =>
      have hd : decide (k < n) = false := by simpa using hlt
      obtain rfl : k = n := by omega
      have HC := Lib.hid (cpt_same hke.out)
      go_wp2_with fail
      go_ret
      exact ⟨d, congrArg (fun m => Ending.returned (.slice (some ⟨blk, off, none⟩) m c)) HC.out.1.symm, hsw.out, fun j hj => HC.out.2 j (by rw [HC.out.1] at hj; exact hj)⟩
    case pos =>
      have hd : decide (k < n) = true := by simpa using hlt
      have hdn := HN.out
      obtain ⟨q, hq⟩ : ∃ q, q = k - 1 := ⟨_, rfl⟩
      have hqn : q < n := by omega
      obtain ⟨X, hX⟩ : ∃ X, X = d[k]! := ⟨_, rfl⟩
      obtain ⟨Y, hY⟩ : ∃ X, X = d[q]! := ⟨_, rfl⟩
      have c1 := hsw.out.cell (t := k) (by omega)
      have c2 := hsw.out.cell (t := q) (by omega)
      rw [← hX] at c1
      rw [← hY] at c2
      have y1 : IntKind.i64.wrap ((k : Int) - 1) = (q : Int) := by rw [IntWalk.i64_in _ (by omega)]; omega
      have y1' : (k : Int) - 1 = (q : Int) := by omega
      have HX := Lib.hid hX
      have HY := Lib.hid hY
      have HQ := Lib.hid hq
      clear hX hY hdn hq
      by_cases hxy : X = Y
      case neg =>
        have hb : (X == Y) = false := by simpa using hxy
        have HK : Hid (∀ j, j < k + 1 → Lib.keeps d j = true) := fun j hj => by
          by_cases e : j = k
          · subst e
            exact Lib.keeps_pos (by rw [← HX.out, ← HQ.out, ← HY.out]; exact hxy)
          · exact hke.out j (by omega)
        clear hxy
        go_wp2_with fail
        go_quiet (fail)
        go_wp2_with fail
        go_roundw
        case rel => exact ⟨k + 1, Nat.le_succ_of_le hk1, hlt, by go_num, hsw.out.same rfl rfl rfl rfl, HK⟩
        case measure => clear y1 y1'; simp [intOf]; omega
      case pos =>
        have hb : (X == Y) = true := by simpa using hxy
        have HDUP : Hid (Lib.keeps d k = false) := Lib.keeps_neg hk1 (by rw [← HX.out, ← HQ.out, ← HY.out]; exact hxy)
        have HCI := Lib.hid (Lib.CompInv.start hke.out HDUP.out)
        obtain ⟨N, hN⟩ : ∃ N, N = n - k := ⟨_, rfl⟩
        obtain ⟨C, hC⟩ : ∃ C, C = c - k := ⟨_, rfl⟩
        obtain ⟨off2, ho2⟩ : ∃ o, o = off + k := ⟨_, rfl⟩
        have hsl : ∀ w', (Instr.slice 48 (.slice (some ⟨blk, off, none⟩) n c) (some (.int .i64 (k : Int))) none none).run Try.prog w' = .ok (.slice (some ⟨blk, off2, none⟩) N C) w' := fun w' => by
          rw [run_slice_l (P := Try.prog) w' 48 (some ⟨blk, off, none⟩) n c (by rw [elemN8.elem]; exact elemN8.ht) .i64 (k : Int) (by omega) (by omega), elemN8.elem, elemN8.sizeOf]
          show Result.ok (sliced (some ⟨blk, off, none⟩) (k : Int).toNat n c 1) w' = _
          unfold sliced
          rw [Int.toNat_natCast, if_neg (by omega)]
          show Result.ok (Value.slice (some ((⟨blk, off, none⟩ : Addr).add (k * 1))) (n - k) (c - k)) w' = _
          rw [add_plain, Nat.mul_one, hN, hC, ho2]
        have hN1 : 1 ≤ N := by clear y1 y1'; omega
        have hNn : N ≤ n := by clear y1 y1'; omega
        have HNE := Lib.hid hN
        have HO2 := Lib.hid ho2
        clear hxy hN hC ho2
        go_wp2_with fail
        go_quiet (fail)
        have HSW1 := Lib.hid (hsw.out.same (w := wr.drewN nq) rfl rfl rfl rfl)
        clear c1 c2 y1 y1' hb hd
        generalize World.drewN wr nq = w1 at *
        go_wp2_with fail
        obtain ⟨k0, hk0⟩ : ∃ k0, k0 = k := ⟨_, rfl⟩
        have HK0 := Lib.hid hk0
        clear hk0
        go_loopw [3, 5] (fun vk vj wr => ∃ (m j : Nat) (dk : Array Int), 1 ≤ j ∧ j ≤ N ∧ vk = .int .i64 m ∧ vj = .int .i64 j ∧ Hid (SW w wr blk off d dk) ∧ Hid (Lib.CompInv d (k0 + j) m dk)) (fun _ vj _ => N - (intOf vj).toNat)
        case atStart => exact ⟨k, 1, d, Nat.le_refl _, hN1, rfl, rfl, HSW1, by show Lib.CompInv d (k0 + 1) k d; rw [HK0.out]; exact HCI.out⟩
        case round =>
          clear HCI HDUP HX HY HQ HSW1
          obtain ⟨m, j, dk, hj1, hjN, rfl, rfl, hsw2, hci⟩ := hrel
          by_cases hjn : j < N
          case neg =>
            obtain rfl : j = N := by omega
            have hd : decide (j < j) = false := by simp
            have hkj : k0 + j = n := by have := HK0.out; have := HNE.out; omega
            have hml : (Lib.compactUpTo d n).length = m := by have := hci.out.len; rw [hkj] at this; exact this
            have hmn : m < n := by have := hci.out.lt; omega
            have hdk : dk.size = n := hsw2.out.sz.trans HN.out
            obtain ⟨R, hR⟩ : ∃ R, R = n - m := ⟨_, rfl⟩
            obtain ⟨off3, ho3⟩ : ∃ o, o = off + m := ⟨_, rfl⟩
            obtain ⟨C3, hC3⟩ : ∃ C, C = c - m := ⟨_, rfl⟩
            have hsl3 : ∀ w', (Instr.slice 48 (.slice (some ⟨blk, off, none⟩) n c) (some (.int .i64 (m : Int))) none none).run Try.prog w' = .ok (.slice (some ⟨blk, off3, none⟩) R C3) w' := fun w' => by
              rw [run_slice_l (P := Try.prog) w' 48 (some ⟨blk, off, none⟩) n c (by rw [elemN8.elem]; exact elemN8.ht) .i64 (m : Int) (by omega) (by omega), elemN8.elem, elemN8.sizeOf]
              show Result.ok (sliced (some ⟨blk, off, none⟩) (m : Int).toNat n c 1) w' = _
              unfold sliced
              rw [Int.toNat_natCast, if_neg (by omega)]
              show Result.ok (Value.slice (some ((⟨blk, off, none⟩ : Addr).add (m * 1))) (n - m) (c - m)) w' = _
              rw [add_plain, Nat.mul_one, hR, hC3, ho3]
            obtain ⟨d2, hcl, hlow⟩ := SW.clear R m wr dk hsw2.out (by omega)
            have hrun : ∀ ty, (Builtin.clear_ #[48] ty #[.slice (some ⟨blk, off3, none⟩) R C3]).run Try.prog wr = .ok (.tuple #[]) (wr.setCells blk off3 (List.replicate R (.int .u64 0))) := fun ty => by
              refine Lib.run_clear_slice (P := Try.prog) wr 48 22 ty (.int .u64 0) elemN8.ht Try.zeroValue22 rfl rfl blk off3 R C3 (by omega) (fun j hj => ?_) (fun j hj => ?_)
              · have := hsw2.out.cell (t := m + j) (by omega)
                rw [ho3, Nat.add_assoc, this]; rfl
              · have := hsw2.out.frozen (t := m + j) (by omega)
                rw [ho3, Nat.add_assoc]; exact this
            rw [← ho3] at hcl
            have HCL := Lib.hid hcl
            have HLOW := Lib.hid hlow
            have HML := Lib.hid hml
            have HKJ := Lib.hid hkj
            clear hcl hlow hml hkj hR hC3 ho3 hdk
            go_wp2_with fail
            go_ret
            refine ⟨d2, congrArg (fun q => Ending.returned (.slice (some ⟨blk, off, none⟩) q c)) HML.out.symm, HCL.out, fun q hq => ?_⟩
            have hlw := hci.out.low q (by rw [HML.out] at hq; exact hq)
            rw [HKJ.out] at hlw
            rw [hlw, HLOW.out q (by rw [HML.out] at hq; exact hq)]
          case pos =>
            have hd : decide (j < N) = true := by simpa using hjn
            have hdn := HN.out
            have hko := HK0.out
            have hne := HNE.out
            have hdk : dk.size = n := hsw2.out.sz.trans HN.out
            have hmk : m < k + j := by have := hci.out.lt; omega
            have hkjn : k + j < n := by omega
            have hmn : m < n := by omega
            obtain ⟨q, hq⟩ : ∃ q, q = j - 1 := ⟨_, rfl⟩
            obtain ⟨o1, ho1⟩ : ∃ o, o = off2 + j := ⟨_, rfl⟩
            have hqN : q < N := by omega
            obtain ⟨X, hX⟩ : ∃ X, X = d[k + j]! := ⟨_, rfl⟩
            obtain ⟨Y, hY⟩ : ∃ X, X = d[k + q]! := ⟨_, rfl⟩
            have c1 := hsw2.out.cell (t := k + j) (by omega)
            have c2 := hsw2.out.cell (t := k + q) (by omega)
            have c3 := hsw2.out.cell (t := m) (by omega)
            have z3 := hsw2.out.frozen (t := m) (by omega)
            rw [hci.out.high (k + j) (by omega), ← hX, ← Nat.add_assoc, ← HO2.out] at c1
            rw [hci.out.high (k + q) (by omega), ← hY, ← Nat.add_assoc, ← HO2.out] at c2
            have y1 : IntKind.i64.wrap ((j : Int) - 1) = (q : Int) := by rw [IntWalk.i64_in _ (by omega)]; omega
            have y1' : (j : Int) - 1 = (q : Int) := by clear y1; omega
            have HX := Lib.hid hX
            have HY := Lib.hid hY
            have HQ := Lib.hid hq
            have HDK := Lib.hid hdk
            have hrel1 : k0 + j + 1 = k0 + (j + 1) := by clear y1 y1'; omega
            have HR1 := Lib.hid hrel1
            clear hX hY hdn hko hne hdk hq ho1 o1 hrel1
            by_cases hxy : X = Y
            case pos =>
              have hb : (X != Y) = false := by simpa using hxy
              have HCI : Hid (Lib.CompInv d (k0 + (j + 1)) m dk) := by
                show Lib.CompInv d (k0 + (j + 1)) m dk
                rw [← HR1.out]
                refine hci.out.skip (Lib.keeps_neg (by omega) ?_)
                rw [HK0.out, show k + j - 1 = k + q by have := HQ.out; omega, ← HX.out, ← HY.out]; exact hxy
              clear hxy
              go_wp2_with fail
              go_quiet (fail)
              go_wp2_with fail
              go_roundw
              case rel => exact ⟨m, j + 1, dk, Nat.le_succ_of_le hj1, hjn, rfl, by go_num, hsw2.out.same rfl rfl rfl rfl, HCI⟩
              case measure => clear y1 y1'; simp [intOf]; omega
            case neg =>
              have hb : (X != Y) = true := by simpa using hxy
              have HCI : Hid (Lib.CompInv d (k0 + (j + 1)) (m + 1) (dk.setIfInBounds m X)) := by
                show Lib.CompInv d (k0 + (j + 1)) (m + 1) (dk.setIfInBounds m X)
                have h := hci.out.keep (by rw [HK0.out, HN.out]; exact hkjn) (Lib.keeps_pos (by rw [HK0.out, show k + j - 1 = k + q by have := HQ.out; omega, ← HX.out, ← HY.out]; exact hxy))
                rw [HR1.out, HK0.out, ← HX.out, ← HK0.out] at h
                exact h
              clear hxy
              go_wp2_with fail
              go_quiet (fail)
              have HSW2 := Lib.hid (hsw2.out.same (w := wr.drewN nq) rfl rfl rfl rfl)
              have c1' : (World.drewN wr nq).cell? ⟨blk, off2 + j, none⟩ = some (.int .u64 X) := c1
              have c3' : (World.drewN wr nq).cell? ⟨blk, off + m, none⟩ = _ := c3
              have z3' : (World.drewN wr nq).frozen? ⟨blk, off + m, none⟩ = false := z3
              clear c1 c2 c3 z3
              generalize World.drewN wr nq = w2 at *
              go_wp2_with fail
              go_roundw
              case rel => exact ⟨m + 1, j + 1, dk.setIfInBounds m X, Nat.le_succ_of_le hj1, hjn, by go_num, by go_num, HSW2.out.set (by rw [HDK.out]; exact hmn) X rfl rfl rfl rfl, HCI⟩
              case measure => clear y1 y1'; simp [intOf]; omega
end Go.Proofs.Ytcbmnfjbmkpfiaa
/- slices.Compact of a row of one's own; what compacting a sorted list gives. -/
namespace Go.Proofs.Ytcbmnfjbmkpfiaa
open Go.ChangeShapes Go.WideShapes Go.ChangeAt Go.RowKit
set_option linter.unusedVariables false
/-- A list without neighbours that are one. -/
def cpl (l : List Nat) : List Nat := (Lib.compactUpTo (arrOf l) l.length).map Int.toNat
theorem cpl_len (l : List Nat) : (cpl l).length = (Lib.compactUpTo (arrOf l) l.length).length := by simp [cpl]
theorem cpl_upto {l : List Nat} (hs : l.Pairwise (· ≤ ·)) : ∀ m, m ≤ l.length → ((Lib.compactUpTo (arrOf l) m).map Int.toNat).Pairwise (· < ·) ∧ ∀ x, x ∈ (Lib.compactUpTo (arrOf l) m).map Int.toNat ↔ x ∈ l.take m
  | 0, _ => by
    have e : Lib.compactUpTo (arrOf l) 0 = [] := rfl
    rw [e]
    exact ⟨List.Pairwise.nil, fun x => by simp⟩
  | m + 1, h => by
    obtain ⟨h1, h2⟩ := cpl_upto hs m (by omega)
    have hx : l[m]? = some l[m] := List.getElem?_eq_getElem (by omega)
    have htk : l.take (m + 1) = l.take m ++ [l[m]] := by rw [List.take_add_one, hx]; rfl
    rw [Lib.compactUpTo_succ, List.map_append, htk]
    have hd : (arrOf l)[m]! = ((l[m] : Nat) : Int) := arr_at hx
    by_cases hk : Lib.keeps (arrOf l) m = true
    · rw [if_pos hk]
      have he : ([(arrOf l)[m]!] : List Int).map Int.toNat = [l[m]] := by rw [hd]; simp
      rw [he]
      refine ⟨List.pairwise_append.2 ⟨h1, List.pairwise_singleton _ _, fun x hx1 y hy => ?_⟩, fun x => by rw [List.mem_append, List.mem_append, h2]⟩
      simp only [List.mem_singleton] at hy
      subst hy
      obtain ⟨i, hi, rfl⟩ := List.mem_iff_getElem.1 ((h2 x).1 hx1)
      rw [List.length_take] at hi
      rw [List.getElem_take]
      have hm0 : 0 < m := by omega
      have hle1 : l[i] ≤ l[m - 1] := by
        rcases Nat.lt_or_ge i (m - 1) with hlt | hge
        · exact List.pairwise_iff_getElem.1 hs i (m - 1) (by omega) (by omega) hlt
        · have : i = m - 1 := by omega
          subst this; exact Nat.le_refl _
      have hle2 : l[m - 1] ≤ l[m] := List.pairwise_iff_getElem.1 hs (m - 1) m (by omega) (by omega) (by omega)
      have hne : l[m] ≠ l[m - 1] := fun e => by
        have h3 : Lib.keeps (arrOf l) m = false := Lib.keeps_neg hm0 (by rw [hd, arr_at (List.getElem?_eq_getElem (show m - 1 < l.length by omega)), e])
        rw [h3] at hk; cases hk
      omega
    · rw [if_neg hk]
      simp only [List.map_nil, List.append_nil]
      refine ⟨h1, fun x => ?_⟩
      rw [h2, List.mem_append, List.mem_singleton]
      refine ⟨.inl, fun hx1 => ?_⟩
      rcases hx1 with hx1 | rfl
      · exact hx1
      · have hm0 : 0 < m := by
          rcases Nat.eq_zero_or_pos m with h0 | h0
          · subst h0
            exact absurd (by simp [Lib.keeps]) hk
          · exact h0
        have e : l[m] = l[m - 1] := by
          rcases Decidable.em (l[m] = l[m - 1]) with e | e
          · exact e
          · refine absurd (Lib.keeps_pos ?_) hk
            rw [hd, arr_at (List.getElem?_eq_getElem (show m - 1 < l.length by omega))]
            omega
        rw [e]
        exact List.mem_iff_getElem.2 ⟨m - 1, by rw [List.length_take]; omega, by rw [List.getElem_take]⟩
theorem cpl_sorted {l : List Nat} (hs : l.Pairwise (· ≤ ·)) : (cpl l).Pairwise (· < ·) ∧ ∀ x, x ∈ cpl l ↔ x ∈ l := by
  obtain ⟨h1, h2⟩ := cpl_upto hs l.length (Nat.le_refl _)
  exact ⟨h1, fun x => (h2 x).trans (by rw [List.take_length])⟩
theorem cpl_short {l : List Nat} (h : l.length < 2) : cpl l = l := by
  rcases l with _ | ⟨x, _ | ⟨y, l⟩⟩
  · rfl
  · unfold cpl
    have e : Lib.compactUpTo (arrOf [x]) [x].length = [(x : Int)] := by
      rw [show [x].length = 0 + 1 from rfl, Lib.compactUpTo_succ, Lib.keeps_lt_one _ 0 (by decide), if_pos rfl, arr_at (l := [x]) (i := 0) rfl]
      rfl
    rw [e]; simp
  · simp at h; omega
section
variable {w w' : World} {base n c : Nat} {A : Option Addr} {l : List Nat}
theorem own_cut {e : TypeId} {xs : List Value} {m : Nat} (h : w.ownsRow base e 1 (.slice A n c) n xs) (hm : m ≤ n) : w.ownsRow base e 1 (.slice A m c) m (xs.take m) := by
  have hlen : xs.length = n := by have := h.1; simpa using this
  refine ⟨by rw [List.length_take]; omega, ?_⟩
  rcases h.2 with ⟨hv, h0⟩ | ⟨q, cap, cur, hv, hq, hh, hnc, hcm, hcs, htake⟩
  · injection hv with h1 h2 h3
    subst h1; subst h3
    exact .inl ⟨by rw [show m = 0 by omega], by omega⟩
  · injection hv with h1 h2 h3
    subst h1; subst h3
    rw [Nat.mul_one] at htake
    refine .inr ⟨q, c, cur, rfl, hq, hh, by omega, hcm, hcs, ?_⟩
    rw [Nat.mul_one, ← htake, List.take_take, Nat.min_eq_left hm]
theorem SW.ownI {g : Nat} {d' : Array Int} {e : TypeId} (h : SW w w' g 0 (arrOf l) d') (ho : w.ownsRow base e 1 (.slice (some ⟨g, 0, none⟩) n c) n (l.map uv)) : w'.ownsRow base e 1 (.slice (some ⟨g, 0, none⟩) n c) n (d'.toList.map eu) := by
  have hn : l.length = n := by have := ho.1; simpa using this
  have hsz : d'.size = n := by have := h.sz; rw [arr_size] at this; omega
  refine ⟨by simp [hsz], ?_⟩
  rcases ho.2 with ⟨hv, h0⟩ | ⟨q, cap, cur, hv, hq, hh, hnc, hcm, hcs, htake⟩
  · injection hv with h1; cases h1
  · injection hv with h1 _ h3
    injection h1 with h1
    injection h1 with h1
    subst h1; subst h3
    rw [Nat.mul_one] at htake hcs
    have hrow := h.row
    refine .inr ⟨g, c, Sort.putCells eu 0 d' cur, rfl, hq, ?_, hnc, hcm, by simpa [Sort.putCells] using hcs, ?_⟩
    · rw [hrow]
      unfold Sort.putRow Sort.mapBlock
      simp only [Array.getElem?_modify, if_true, hh]
      rfl
    · apply List.ext_getElem?
      intro i
      rw [Nat.mul_one, List.getElem?_take]
      by_cases hi : i < n
      · rw [if_pos hi, List.getElem?_map, List.getElem?_eq_getElem (show i < d'.toList.length by simp [hsz]; omega)]
        have hcl : i < cur.size := by
          have h2 := congrArg List.length htake
          simp only [List.length_take, List.length_map, Array.length_toList] at h2
          omega
        simp only [Sort.putCells, Array.getElem?_toList, Array.getElem?_mapIdx, Array.getElem?_eq_getElem hcl, Option.map_some]
        rw [if_pos ⟨Nat.zero_le _, by omega⟩, Nat.sub_zero, getElem!_pos _ i (by omega)]
        simp
      · rw [if_neg hi, List.getElem?_map, List.getElem?_eq_none (show d'.toList.length ≤ i by simp [hsz]; omega)]
        rfl
/-- What slices.Compact of a row of one's own ends in. -/
def Cpted (w : World) (base : Nat) (A : Option Addr) (n c : Nat) (l : List Nat) (e : Ending) (w' : World) : Prop :=
  e = .returned (.slice A (cpl l).length c) ∧ w'.ownsRow base 22 1 (.slice A (cpl l).length c) (cpl l).length ((cpl l).map uv) ∧ Chg (fun k => some k = (Value.slice A n c).ownBlock) w w'
theorem compact_short (A : Option Addr) (n c : Nat) (w : World) (h : n < 2) : Calls Try.prog 54 #[.slice A n c] w fun e w' => e = .returned (.slice A n c) ∧ w = w' := by
  have hd : decide ((n : Int) < 2) = true := by simp; omega
  go_enter Try.func54, Try.ntmps54
  go_wp2_with fail
  go_ret
  exact ⟨rfl, rfl⟩
theorem compact_own (h : w.ownsRow base 22 1 (.slice A n c) n (l.map uv)) (hn : n < 65536) : Calls Try.prog 54 #[.slice A n c] w (Cpted w base A n c l) := by
  have hlen : l.length = n := by have := h.1; simpa using this
  by_cases h2 : n < 2
  · refine (compact_short A n c w h2).mono fun e w' ⟨he, hw⟩ => ?_
    unfold Cpted
    rw [cpl_short (by omega), hlen]
    exact ⟨he, hw ▸ h, hw ▸ Chg.refl _ _⟩
  · rcases h.2 with ⟨_, hx⟩ | ⟨q, cap, cur, hv, hq, hh, hnc, hcm, hcs, htake⟩
    · omega
    · injection hv with h1 _ h3
      subst h1; subst h3
      rw [Nat.mul_one] at htake
      have hb : Blk w q 22 cur := hh
      have hH := uv_holds hb (by rw [hlen]; exact htake)
      refine (compact_row hH hb.lt (by rw [arr_size]; exact hlen) hn (by omega) hnc hcm).mono ?_
      rintro e w' ⟨d', rfl, h1, h2⟩
      rw [← hlen, ← cpl_len] at h2
      have hle := cpt_le (arrOf l) l.length
      rw [← cpl_len] at hle
      have hown := own_cut (h1.ownI h) (m := (cpl l).length) (by omega)
      have hvals : (d'.toList.map eu).take (cpl l).length = (cpl l).map uv := by
        have hsz : d'.size = n := by have := h1.sz; rw [arr_size] at this; omega
        apply List.ext_getElem?
        intro i
        rw [List.getElem?_take]
        by_cases hi : i < (cpl l).length
        · rw [if_pos hi, List.getElem?_map, List.getElem?_map, Array.getElem?_toList, Array.getElem?_eq_getElem (by omega)]
          have h3 := h2 i hi
          rw [getElem!_pos _ i (by omega)] at h3
          unfold cpl
          rw [List.getElem?_map, h3]
          have h4 : ∃ x : Nat, d'[i] = (x : Int) := by
            have h5 := List.mem_of_getElem? h3
            unfold Lib.compactUpTo at h5
            obtain ⟨j, hj, hje⟩ := List.mem_map.1 h5
            have hj2 : j < l.length := List.mem_range.1 (List.mem_filter.1 hj).1
            rw [arr_at (List.getElem?_eq_getElem hj2)] at hje
            exact ⟨_, hje.symm⟩
          obtain ⟨x, hx⟩ := h4
          simp only [Option.map_some, hx, Int.toNat_natCast]
          rfl
        · rw [if_neg hi, List.getElem?_eq_none (by simpa using hi)]
      rw [hvals] at hown
      unfold Cpted
      rw [cpl_len] at hown ⊢
      rw [← hlen]
      refine ⟨rfl, hown, h1.ch.more fun k _ hk => by rw [show k = q from hk]; rfl⟩
end
end Go.Proofs.Ytcbmnfjbmkpfiaa
/- peek.Of and peek.Streams. -/
namespace Go.Proofs.Ytcbmnfjbmkpfiaa
open Go.ChangeShapes Go.WideShapes Go.ChangeAt Go.RowKit
set_option linter.unusedVariables false
/-- The positions of a stream's links; the streams of the links. -/
def rawF (s : Nat) (L : List (Nat × Lnk)) : List Nat := (L.filter (fun y => y.2.1 == s)).map (·.1)
def rawS (L : List (Nat × Lnk)) : List Nat := L.map (·.2.1)
theorem rawF_snoc (s : Nat) (L : List (Nat × Lnk)) (p xs : Nat) (xl : List Nat) : rawF s (L ++ [(p, (xs, xl))]) = rawF s L ++ if xs = s then [p] else [] := by
  unfold rawF
  rw [List.filter_append, List.map_append]
  congr 1
  by_cases h : xs = s
  · rw [if_pos h]; simp [h]
  · rw [if_neg h]; simp [h]
theorem lkB_lenB {b M : Nat} : ∀ (i : Nat) (es : List Ent), (∀ e ∈ es, e.1.length ≤ M) → (lkB b i es).length ≤ M * es.length
  | i, [], _ => Nat.zero_le _
  | i, e :: es, h => by
    have h1 := lkB_lenB (b := b) (i + 1) es (fun e he => h e (List.mem_cons_of_mem _ he))
    have h2 := h e (List.mem_cons_self ..)
    rw [lkB, List.length_append, List.length_map, List.length_cons, Nat.mul_succ]; omega
/-- The positions rise. -/
theorem lkB_up {b : Nat} : ∀ (i : Nat) (es : List Ent), b + i + es.length ≤ 18446744073709551616 → ((lkB b i es).map (·.1)).Pairwise (· ≤ ·) ∧ ∀ x ∈ (lkB b i es).map (·.1), b + i ≤ x
  | i, [], _ => ⟨List.Pairwise.nil, fun x h => by cases h⟩
  | i, e :: es, h => by
    rw [List.length_cons] at h
    obtain ⟨h1, h2⟩ := lkB_up (b := b) (i + 1) es (by omega)
    have hp : posN b i = b + i := Nat.mod_eq_of_lt (by omega)
    rw [lkB, List.map_append, List.map_map]
    have h3 : ∀ x ∈ e.1.map ((·.1) ∘ fun x => (posN b i, x)), x = b + i := fun x hx => by
      rw [List.mem_map] at hx
      obtain ⟨y, _, rfl⟩ := hx
      exact hp
    refine ⟨List.pairwise_append.2 ⟨?_, h1, fun x hx y hy => ?_⟩, fun x hx => ?_⟩
    · refine List.pairwise_of_forall_mem_list ?_
      intro x hx y hy
      rw [h3 x hx, h3 y hy]; exact Nat.le_refl _
    · rw [h3 x hx]; have := h2 y hy; omega
    · rw [List.mem_append] at hx
      rcases hx with hx | hx
      · rw [h3 x hx]; exact Nat.le_refl _
      · have := h2 x hx; omega
theorem num_fit {b n : Nat} (h : NumOk b n) (hn : n ≤ 1000000) (hb : b ≤ 18446744073709551615) : b + n ≤ 18446744073709551616 := by
  have h1 := num_end h hn hb
  unfold endN at h1
  omega
theorem rawF_up {b s : Nat} {es : List Ent} (h : b + es.length ≤ 18446744073709551616) : (rawF s (lkB b 0 es)).Pairwise (· ≤ ·) :=
  List.Pairwise.sublist (List.Sublist.map _ List.filter_sublist) (lkB_up 0 es (by omega)).1
theorem lkB_pos {b : Nat} : ∀ (i : Nat) (es : List Ent), ∀ y ∈ lkB b i es, y.1 < 18446744073709551616
  | i, [], y, h => by cases h
  | i, e :: es, y, h => by
    rw [lkB, List.mem_append] at h
    rcases h with h | h
    · rw [List.mem_map] at h
      obtain ⟨x, _, rfl⟩ := h
      exact Nat.mod_lt _ (by decide)
    · exact lkB_pos (i + 1) es y h
theorem lkB_memB {b : Nat} : ∀ (i : Nat) (es : List Ent) (y : Nat × Lnk), y ∈ lkB b i es → ∃ e ∈ es, y.2 ∈ e.1
  | i, [], y, h => by cases h
  | i, e :: es, y, h => by
    rw [lkB, List.mem_append] at h
    rcases h with h | h
    · rw [List.mem_map] at h
      obtain ⟨x, hx, rfl⟩ := h
      exact ⟨e, List.mem_cons_self .., hx⟩
    · obtain ⟨e', h1, h2⟩ := lkB_memB (i + 1) es y h
      exact ⟨e', List.mem_cons_of_mem _ h1, h2⟩
theorem ent_b64 {w : World} {D : Dom} {A : Option Addr} {n c : Nat} {es : List Ent} (h : rpEnt.sl w D A n c es) : ∀ e ∈ es, ∀ x ∈ e.1, x.1 < 18446744073709551616 := fun e he x hx => by
  obtain ⟨i, hi⟩ := List.getElem?_of_mem he
  have hin : i < n := by have := (Rp.sl_len h).1; have := (List.getElem?_eq_some_iff.1 hi).1; omega
  obtain ⟨b, off, e', A', c', B, d, hA, hb, hx', _, _, hl, _⟩ := ent_at h hin
  rw [hi] at hx'
  injection hx' with hx'
  subst hx'
  obtain ⟨k, hk⟩ := List.getElem?_of_mem hx
  obtain ⟨bo, off, x', A3, c3, _, _, hy, _, _, _, h64⟩ := lnk_at hl (k := k) (List.getElem?_eq_some_iff.1 hk).1
  rw [hk] at hy
  injection hy with hy
  subst hy
  omega
/-- What peek.Of tells. -/
noncomputable def ofL (b : Nat) (es : List Ent) (s : Nat) : List Nat := if dec (NumOk b es.length) then cpl (rawF s (lkB b 0 es)) else []
section
variable {D : Dom} {A : Option Addr} {n c ep b s : Nat} {es : List Ent} {w : World}
set_option maxRecDepth 100000 in
set_option maxHeartbeats 4000000 in
theorem of_any (hs : rpEnt.sl w D A n c es) (hD : ∀ k, D k → k < w.heap.size) (hn : n ≤ 30) (hM : ∀ e ∈ es, e.1.length ≤ 50) (hb : b ≤ 18446744073709551615) (hss : s ≤ 18446744073709551615) :
    Calls Try.prog 21 #[.agg (batV ep b A n c), .int .u64 (s : Int)] w fun e w' => Below w.heap.size w w' ∧ ∃ A' n' c', e = .returned (.slice A' n' c') ∧ Row64 w' w.heap.size A' n' c' (ofL b es s) := by
  have hb3 := below3 w (.cells (batV ep b A n c) 25) (.cells #[.int .u64 (s : Int)] 22) (.cells #[.slice none 0 0] 48)
  have HB3 := Lib.hid hb3
  have K1 := Lib.hid (blk31 w 25 22 48 (batV ep b A n c) #[.int .u64 (s : Int)] #[.slice none 0 0])
  have K2 := Lib.hid (blk32 w 25 22 48 (batV ep b A n c) #[.int .u64 (s : Int)] #[.slice none 0 0])
  have K3 := Lib.hid (blk33 w 25 22 48 (batV ep b A n c) #[.int .u64 (s : Int)] #[.slice none 0 0])
  have S3 := Lib.hid (keepS (show Sl rpEnt w D A n c es from ⟨hs, hD⟩) hb3)
  have HN := Lib.hid (Rp.sl_len hs).1
  have HD0 := Lib.hid hD
  have HM := Lib.hid hM
  have HHB := Lib.hid hb
  obtain ⟨gz, hgz⟩ : ∃ gz, gz = w.heap.size := ⟨_, rfl⟩
  rw [← hgz] at K1 K2 K3
  have HGZ := Lib.hid hgz
  obtain ⟨q1, hq1⟩ : ∃ q, dec (NumOk b n) = q := ⟨_, rfl⟩
  have HQ1 := Lib.hid hq1
  obtain ⟨rl, hrl⟩ : ∃ rl, rl = ofL b es s := ⟨_, rfl⟩
  rw [← hrl]
  have HRL : Hid (rl = if q1 then cpl (rawF s (lkB b 0 es)) else []) := by show _ = _; rw [hrl, ← hq1, ← HN.out]; rfl
  clear hs hD hb3 hM hb hq1 hrl
  go_enter Try.func21, Try.ntmps21
  go_upto_region 2 with (fail)
  rw [← hgz]
  clear hgz
  generalize World.alloc (World.alloc (World.alloc w _) _) _ = w3 at *
  have k0 := (show Blk w3 gz 25 (batV ep b A n c) from K1.out).cell 0
  have k1 := (show Blk w3 gz 25 (batV ep b A n c) from K1.out).cell 1
  have k2 := (show Blk w3 gz 25 (batV ep b A n c) from K1.out).cell 2
  have hnm := numbered_any (ep := ep) (A := A) (c := c) w3 (show n ≤ 1000000 by omega) HHB.out
  rw [HQ1.out] at hnm
  have HNM := Lib.hid hnm
  clear hnm
  go_wp2_with fail
  refine HNM.out.mono ?_; rintro e w4 ⟨rfl, hb4⟩
  have HB4 := Lib.hid (stepB HB3.out hb4)
  have K14 := Lib.hid (keepB (show Blk w3 gz 25 (batV ep b A n c) from K1.out) hb4)
  have K24 := Lib.hid (keepB (show Blk w3 (gz + 1) 22 #[.int .u64 (s : Int)] from K2.out) hb4)
  have K34 := Lib.hid (keepB (show Blk w3 (gz + 1 + 1) 48 #[.slice none 0 0] from K3.out) hb4)
  have S4 := Lib.hid (keepS S3.out hb4)
  clear hb4 k0 k1 k2
  cases q1
  case false =>
    have hrl : rl = [] := HRL.out
    subst hrl
    go_wp2_with fail
    go_ret
    exact ⟨HB4.out, none, 0, 0, rfl, Row64.nil _ _⟩
  case true =>
  have k0 := (show Blk w4 gz 25 (batV ep b A n c) from K14.out).cell 0
  have k1 := (show Blk w4 gz 25 (batV ep b A n c) from K14.out).cell 1
  have k2 := (show Blk w4 gz 25 (batV ep b A n c) from K14.out).cell 2
  have heach := eachO_any (base := gz + 1 + 1) (ep := ep) (b := b) (a0 := ⟨gz + 1, 0, none⟩) (a1 := ⟨gz + 1 + 1, 0, none⟩) (w := w4)
    (I := fun L u => Blk u (gz + 1) 22 #[.int .u64 (s : Int)] ∧ OutIs (gz + 1 + 1) (gz + 1 + 1) (rawF s L) u)
    S4.out.1 S4.out.2 (fun k hk => by have h1 := HD0.out k hk; have := HGZ.out; omega) (Nat.le_of_lt (show Blk w4 (gz + 1 + 1) 48 _ from K34.out).lt)
    (by omega) (fun e he => Nat.le_trans (HM.out e he) (by decide)) HHB.out
    (fun L u u' h hb => ⟨keepB h.1 hb, h.2.below hb⟩)
    ⟨K24.out, none, 0, 0, K34.out, World.ownsRow_nil _ _ _ _⟩
    (fun L u p xs xl A' n' c' hR hp hss hx hD' hIu hbz => by
      obtain ⟨h1, h2⟩ := hIu
      obtain ⟨R, hR⟩ := hR
      have hlen : (rawF s L).length ≤ 100000 := by
        have h4 := lkB_lenB (b := b) 0 es HM.out
        have h5 := HN.out
        rw [hR, List.length_append] at h4
        have h6 : (rawF s L).length ≤ L.length := by unfold rawF; rw [List.length_map]; exact List.length_filter_le _ _
        have h7 : 50 * es.length ≤ 1500 := by omega
        omega
      refine (of1_any (base := gz + 1 + 1) (A := A') (n := n') (c := c') h1 (by omega) hbz (Nat.le_refl _) h2 hlen hp).mono ?_
      rintro e w' ⟨h7, h8, h9, h10⟩
      rw [rawF_snoc]
      exact ⟨h7, ⟨Blk.below h1 h9 (by omega), h8⟩, h9, h10⟩)
  have HEA := Lib.hid heach
  clear heach
  go_upto_region 5 with
    (go_at_call 45
     refine HEA.out.mono ?_
     rintro e w5 ⟨rfl, hi5, hb5⟩
     have HI5 := Lib.hid hi5.2
     have HB5 := Lib.hid (HB4.out.trans (hb5.mono (by have := HGZ.out; omega)))
     clear hi5 hb5 k0 k1 k2)
  obtain ⟨Ao, no, co, hgo, hrow⟩ := HI5.out
  have g0 := hgo.cell 0
  have hnf := num_fit (of_dec HQ1.out) (by omega) HHB.out
  have hup : (rawF s (lkB b 0 es)).Pairwise (· ≤ ·) := rawF_up (by rw [HN.out]; exact hnf)
  have hnolen : (rawF s (lkB b 0 es)).length = no := by have := hrow.1; simpa using this
  have hno : no < 65536 := by
    have h4 := lkB_lenB (b := b) 0 es HM.out
    have h5 := HN.out
    have h6 : (rawF s (lkB b 0 es)).length ≤ (lkB b 0 es).length := by unfold rawF; rw [List.length_map]; exact List.length_filter_le _ _
    omega
  have HCP := Lib.hid (compact_own hrow hno)
  have HFIN : Hid (∀ w6, w6.ownsRow (gz + 1 + 1) 22 1 (.slice Ao (cpl (rawF s (lkB b 0 es))).length co) (cpl (rawF s (lkB b 0 es))).length ((cpl (rawF s (lkB b 0 es))).map uv) → Chg (fun k => some k = (Value.slice Ao no co).ownBlock) w5 w6 →
      Below w.heap.size w w6 ∧ Row64 w6 w.heap.size Ao (cpl (rawF s (lkB b 0 es))).length co rl) := fun w6 ho hc => by
    refine ⟨HB5.out.trans (hc.below HB5.out.size (fun k hk => by have := (hrow.lt k hk.symm).1; have := HGZ.out; omega)), ?_⟩
    have e : rl = cpl (rawF s (lkB b 0 es)) := HRL.out
    rw [e]
    refine ⟨own_less2 ho (by have := HGZ.out; omega), fun x hx => ?_⟩
    have h1 := ((cpl_sorted hup).2 x).1 hx
    unfold rawF at h1
    rw [List.mem_map] at h1
    obtain ⟨y, hy, rfl⟩ := h1
    exact lkB_pos 0 es y (List.mem_filter.1 hy).1
  obtain ⟨cl, hcl⟩ : ∃ cl, cl = (cpl (rawF s (lkB b 0 es))).length := ⟨_, rfl⟩
  have hcp : Calls Try.prog 54 #[.slice Ao no co] w5 fun e w' => e = .returned (.slice Ao cl co) ∧ Below w.heap.size w w' ∧ Row64 w' w.heap.size Ao cl co rl := HCP.out.mono fun e w' hh => by
    obtain ⟨h1, h2, h3⟩ := hh
    have h4 := HFIN.out w' h2 h3
    rw [hcl]
    exact ⟨h1, h4⟩
  have HCP2 := Lib.hid hcp
  clear hcp hcl hup hnolen hrow hgo hnf
  go_wp2_with fail
  refine HCP2.out.mono ?_; rintro e w6 ⟨rfl, hb6, hr6⟩
  have HB6 := Lib.hid hb6
  have HR6 := Lib.hid hr6
  clear hb6 hr6 g0
  go_wp2_with fail
  go_ret
  exact ⟨HB6.out, Ao, cl, co, rfl, HR6.out⟩
set_option maxRecDepth 100000 in
set_option maxHeartbeats 4000000 in
theorem streams_any (hs : rpEnt.sl w D A n c es) (hD : ∀ k, D k → k < w.heap.size) (hn : n ≤ 30) (hM : ∀ e ∈ es, e.1.length ≤ 50) (hb : b ≤ 18446744073709551615) :
    Calls Try.prog 22 #[.agg (batV ep b A n c)] w fun e w' => Below w.heap.size w w' ∧ ∃ A' n' c' st, e = .returned (.slice A' n' c') ∧ Row64 w' w.heap.size A' n' c' st ∧ st.Pairwise (· < ·) ∧ ∀ x, x ∈ st ↔ NumOk b es.length ∧ x ∈ rawS (lkB b 0 es) := by
  have hb3 := below2 w (.cells (batV ep b A n c) 25) (.cells #[.slice none 0 0] 48)
  have HB3 := Lib.hid hb3
  have K1 := Lib.hid (blk21 w 25 48 (batV ep b A n c) #[.slice none 0 0])
  have K3 := Lib.hid (blk22 w 25 48 (batV ep b A n c) #[.slice none 0 0])
  have S3 := Lib.hid (keepS (show Sl rpEnt w D A n c es from ⟨hs, hD⟩) hb3)
  have HN := Lib.hid (Rp.sl_len hs).1
  have HD0 := Lib.hid hD
  have HB64 := Lib.hid (ent_b64 hs)
  have HM := Lib.hid hM
  have HHB := Lib.hid hb
  obtain ⟨gz, hgz⟩ : ∃ gz, gz = w.heap.size := ⟨_, rfl⟩
  rw [← hgz] at K1 K3
  have HGZ := Lib.hid hgz
  obtain ⟨q1, hq1⟩ : ∃ q, dec (NumOk b n) = q := ⟨_, rfl⟩
  have HQ1 := Lib.hid hq1
  clear hs hD hb3 hM hb hq1
  go_enter Try.func22, Try.ntmps22
  go_upto_region 2 with (fail)
  rw [← hgz]
  clear hgz
  generalize World.alloc (World.alloc w _) _ = w3 at *
  have k0 := (show Blk w3 gz 25 (batV ep b A n c) from K1.out).cell 0
  have k1 := (show Blk w3 gz 25 (batV ep b A n c) from K1.out).cell 1
  have k2 := (show Blk w3 gz 25 (batV ep b A n c) from K1.out).cell 2
  have hnm := numbered_any (ep := ep) (A := A) (c := c) w3 (show n ≤ 1000000 by omega) HHB.out
  rw [HQ1.out] at hnm
  have HNM := Lib.hid hnm
  clear hnm
  go_wp2_with fail
  refine HNM.out.mono ?_; rintro e w4 ⟨rfl, hb4⟩
  have HB4 := Lib.hid (stepB HB3.out hb4)
  have K14 := Lib.hid (keepB (show Blk w3 gz 25 (batV ep b A n c) from K1.out) hb4)
  have K34 := Lib.hid (keepB (show Blk w3 (gz + 1) 48 #[.slice none 0 0] from K3.out) hb4)
  have S4 := Lib.hid (keepS S3.out hb4)
  clear hb4 k0 k1 k2
  cases q1
  case false =>
    go_wp2_with fail
    go_ret
    exact ⟨HB4.out, none, 0, 0, [], rfl, Row64.nil _ _, List.Pairwise.nil, fun x => ⟨(fun h => by cases h), (fun h => by rw [HN.out] at h; exact absurd h.1 (of_not_dec HQ1.out))⟩⟩
  case true =>
  have k0 := (show Blk w4 gz 25 (batV ep b A n c) from K14.out).cell 0
  have k1 := (show Blk w4 gz 25 (batV ep b A n c) from K14.out).cell 1
  have k2 := (show Blk w4 gz 25 (batV ep b A n c) from K14.out).cell 2
  have heach := eachS_any (base := gz + 1) (ep := ep) (b := b) (a0 := ⟨gz + 1, 0, none⟩) (w := w4)
    (I := fun L u => OutIs (gz + 1) (gz + 1) (rawS L) u)
    S4.out.1 S4.out.2 (fun k hk => by have h1 := HD0.out k hk; have := HGZ.out; omega) (Nat.le_of_lt (show Blk w4 (gz + 1) 48 _ from K34.out).lt)
    (by omega) (fun e he => Nat.le_trans (HM.out e he) (by decide)) HHB.out
    (fun L u u' h hb => h.below hb)
    ⟨none, 0, 0, K34.out, World.ownsRow_nil _ _ _ _⟩
    (fun L u p xs xl A' n' c' hR hp hss hx hD' hIu hbz => by
      obtain ⟨R, hR⟩ := hR
      have hlen : (rawS L).length ≤ 100000 := by
        have h4 := lkB_lenB (b := b) 0 es HM.out
        have h5 := HN.out
        rw [hR, List.length_append] at h4
        have h6 : (rawS L).length = L.length := List.length_map ..
        have h7 : 50 * es.length ≤ 1500 := by omega
        omega
      refine (streams1_any (base := gz + 1) (p := p) (A := A') (n := n') (c := c') hbz (Nat.le_refl _) hIu hlen hss).mono ?_
      rintro e w' ⟨h7, h8, h9, h10⟩
      have e : rawS (L ++ [(p, (xs, xl))]) = rawS L ++ [xs] := by unfold rawS; rw [List.map_append]; rfl
      rw [e]
      exact ⟨h7, h8, h9, h10⟩)
  have HEA := Lib.hid heach
  clear heach
  go_upto_region 5 with
    (go_at_call 45
     refine HEA.out.mono ?_
     rintro e w5 ⟨rfl, hi5, hb5⟩
     have HI5 := Lib.hid hi5
     have HB5 := Lib.hid (HB4.out.trans (hb5.mono (by have := HGZ.out; omega)))
     clear hi5 hb5 k0 k1 k2)
  obtain ⟨Ao, no, co, hgo, hrow⟩ := HI5.out
  have g0 := hgo.cell 0
  have hnolen : (rawS (lkB b 0 es)).length = no := by have := hrow.1; simpa using this
  have hno : no < 65536 := by
    have h4 := lkB_lenB (b := b) 0 es HM.out
    have h5 := HN.out
    have h6 : (rawS (lkB b 0 es)).length = (lkB b 0 es).length := List.length_map ..
    omega
  have HSO := Lib.hid (sort_own hrow hno)
  have HROW := Lib.hid hrow
  have HGO := Lib.hid hgo
  have HNO : Hid (¬ some (gz + 1) = (Value.slice Ao no co).ownBlock) := fun e => by
    obtain ⟨cs', hcs⟩ := own_type hrow e.symm
    exact absurd (blk_type hgo hcs) (by decide)
  clear hnolen hrow hgo
  go_wp2_with fail
  refine HSO.out.mono ?_; rintro e w6 ⟨l', rfl, hperm, hpw, ho6, hc6⟩
  have G6 := Lib.hid (chB HGO.out hc6 HNO.out)
  have O6 := Lib.hid ho6
  have HPE := Lib.hid hperm
  have HPW := Lib.hid hpw
  have HB6 := Lib.hid (HB5.out.trans (hc6.below HB5.out.size (fun k hk => by have := (HROW.out.lt k hk.symm).1; have := HGZ.out; omega)))
  clear hperm hpw ho6 hc6 g0
  have g0 := G6.out.cell 0
  obtain ⟨cl, hcl⟩ : ∃ cl, cl = (cpl l').length := ⟨_, rfl⟩
  have hcp : Calls Try.prog 54 #[.slice Ao no co] w6 fun e w' => e = .returned (.slice Ao cl co) ∧ Below w.heap.size w w' ∧ w'.ownsRow w.heap.size 22 1 (.slice Ao cl co) cl ((cpl l').map uv) := (compact_own O6.out hno).mono fun e w' hh => by
    obtain ⟨h1, h2, h3⟩ := hh
    rw [hcl]
    exact ⟨h1, HB6.out.trans (h3.below HB6.out.size (fun k hk => by have := (O6.out.lt k hk.symm).1; have := HGZ.out; omega)), own_less2 h2 (by have := HGZ.out; omega)⟩
  have HCP2 := Lib.hid hcp
  clear hcp hcl
  go_wp2_with fail
  refine HCP2.out.mono ?_; rintro e w7 ⟨rfl, hb7, hr7⟩
  have HB7 := Lib.hid hb7
  have HR7 := Lib.hid hr7
  clear hb7 hr7 g0
  go_wp2_with fail
  go_ret
  have hcs := cpl_sorted HPW.out
  have hmem : ∀ x, x ∈ cpl l' ↔ x ∈ rawS (lkB b 0 es) := fun x => (hcs.2 x).trans HPE.out.mem_iff
  refine ⟨HB7.out, Ao, cl, co, cpl l', rfl, ⟨HR7.out, fun x hx => ?_⟩, hcs.1, fun x => ?_⟩
  · have h1 := (hmem x).1 hx
    unfold rawS at h1
    rw [List.mem_map] at h1
    obtain ⟨y, hy, rfl⟩ := h1
    obtain ⟨e', he', hx'⟩ := lkB_memB 0 es y hy
    exact HB64.out e' he' _ hx'
  · rw [HN.out, hmem]
    exact ⟨fun h => ⟨of_dec HQ1.out, h⟩, fun h => h.2⟩
end
end Go.Proofs.Ytcbmnfjbmkpfiaa
/- slices.Equal of numbers. -/
namespace Go.Proofs.Ytcbmnfjbmkpfiaa
open Go.ChangeShapes Go.WideShapes Go.ChangeAt Go.RowKit
set_option linter.unusedVariables false
theorem eqq64_any {D D' : Dom} {A A' : Option Addr} {n c n' c' : Nat} {l l' : List Nat} {w : World} (hs : rpU64.sl w D A n c l) (hs' : rpU64.sl w D' A' n' c' l') (hD : ∀ k, D k → k < w.heap.size) (hD' : ∀ k, D' k → k < w.heap.size) :
    Calls Try.prog 48 #[.slice A n c, .slice A' n' c'] w fun en w' => en = .returned (.bool (dec (l = l'))) ∧ Below w.heap.size w w' := by
  obtain ⟨hlen, hnc, hcm⟩ := Rp.sl_len hs
  obtain ⟨hlen', hnc', hcm'⟩ := Rp.sl_len hs'
  unfold maxLen at hcm hcm'
  have HL := Lib.hid hs
  have HL' := Lib.hid hs'
  have HN := Lib.hid hlen
  have HN' := Lib.hid hlen'
  have HD := Lib.hid hD
  have HD' := Lib.hid hD'
  clear hs hs' hlen hlen' hD hD'
  by_cases hne : n = n'
  case neg =>
    have hd : ((n : Int) != (n' : Int)) = true := by simp; omega
    rw [dec_false (fun h : l = l' => hne (by rw [← HN.out, ← HN'.out, h]))]
    clear hne
    go_enter Try.func48, Try.ntmps48
    go_wp2_with fail
    go_ret
    exact ⟨rfl, Below.refl _ _⟩
  subst hne
  go_enter Try.func48, Try.ntmps48
  go_wp2_with fail
  go_loopw [13] (fun i wr => ∃ k : Nat, k ≤ n ∧ i = .int .i64 k ∧ Hid (∀ (j : Nat), j < k → l[j]? = l'[j]?) ∧ Below w.heap.size w wr) (fun i _ => n - (intOf i).toNat)
  case atStart => exact ⟨0, by omega, rfl, fun j h => by omega, Below.refl _ _⟩
  case round =>
    obtain ⟨k, hk, rfl, hsh, hbr⟩ := hrel
    have HB := Lib.hid hbr
    by_cases hkn : k < n
    · obtain ⟨b, off, y, rfl, hb, hy, hc, hlt⟩ := u64_at (Rp.sl_below HL.out hbr HD.out) hkn
      obtain ⟨b', off', z, rfl, hb', hz, hc', hlt'⟩ := u64_at (Rp.sl_below HL'.out hbr HD'.out) hkn
      have hd : decide ((k : Int) < (n : Int)) = true := by simp; omega
      have hk0 : (0 : Int) ≤ (k : Int) := by omega
      have hk1 : (k : Int) < (n : Int) := by omega
      have HY := Lib.hid hy
      have HZ := Lib.hid hz
      clear hy hz hbr
      by_cases hyz : y = z
      · have hq : ((y : Int) != (z : Int)) = false := by simp; omega
        have HYZ := Lib.hid hyz
        clear hyz
        go_wp2_with fail
        go_quiet (fail)
        go_wp2_with fail
        go_roundw
        case rel =>
          refine ⟨k + 1, by omega, by go_num, fun j hj => ?_, HB.out.trans ⟨rfl, rfl, rfl, Nat.le_refl _, fun _ _ => rfl⟩⟩
          rcases Nat.lt_or_ge j k with h | h
          · exact hsh.out j h
          · obtain rfl : j = k := by omega
            rw [HY.out, HZ.out, HYZ.out]
        case measure => simp [intOf]; omega
      · have hq : ((y : Int) != (z : Int)) = true := by simp; omega
        have hno := Lib.hid (show ¬ l = l' from fun h => hyz (by have h1 := HY.out; rw [h, HZ.out] at h1; injection h1 with h1; exact h1.symm))
        clear hyz
        go_wp2_with fail
        go_quiet (fail)
        go_wp2_with fail
        go_ret
        rw [dec_false hno.out]
        exact ⟨rfl, HB.out.trans ⟨rfl, rfl, rfl, Nat.le_refl _, fun _ _ => rfl⟩⟩
    · obtain rfl : k = n := by omega
      have hd : decide ((k : Int) < (k : Int)) = false := by simp
      clear hbr
      go_wp2_with fail
      go_ret
      have hyes : l = l' := List.ext_getElem? (fun j => by
        rcases Nat.lt_or_ge j k with h | h
        · exact hsh.out j h
        · rw [List.getElem?_eq_none (by rw [HN.out]; exact h), List.getElem?_eq_none (by rw [HN'.out]; exact h)])
      rw [dec_true hyes]
      exact ⟨rfl, HB.out⟩
end Go.Proofs.Ytcbmnfjbmkpfiaa
/- The document's Find and Extend. -/
namespace Go.Proofs.Ytcbmnfjbmkpfiaa
open Go.ChangeShapes Go.WideShapes Go.ChangeAt Go.RowKit
set_option linter.unusedVariables false
/-- The place of a stream's link; -1: none. -/
def rfI (l : List Lnk) (s : Nat) : Int := if idxOf l s < l.length then (idxOf l s : Int) else -1
section
variable {D : Dom} {A : Option Addr} {n c s p : Nat} {w : World}
set_option maxRecDepth 100000 in
set_option maxHeartbeats 4000000 in
theorem rfind_any {l : List Lnk} (hs : rpLnk.sl w D A n c l) (hD : ∀ k, D k → k < w.heap.size) (hn : n ≤ 100000) (hss : s ≤ 18446744073709551615) :
    Calls Try.prog 41 #[.slice A n c, .int .u64 (s : Int)] w fun e w' => e = .returned (.int .i64 (rfI l s)) ∧ Below w.heap.size w w' := by
  have HS := Lib.hid (show Sl rpLnk w D A n c l from ⟨hs, hD⟩)
  have HN := Lib.hid (Rp.sl_len hs).1
  obtain ⟨R, hR⟩ : ∃ R, rfI l s = R := ⟨_, rfl⟩
  rw [hR]
  have HR := Lib.hid hR
  clear hs hD hR
  go_enter Try.func41, Try.ntmps41
  go_wp2_with fail
  go_loopw [5] (fun vi wr => ∃ k : Nat, k ≤ n ∧ vi = .int .i64 (k : Int) ∧ Hid (∀ (j : Nat) x, j < k → l[j]? = some x → (x.1 == s) = false) ∧ Hid (Below w.heap.size w wr)) (fun vi _ => n - (intOf vi).toNat)
  case atStart => exact ⟨0, Nat.zero_le _, rfl, fun j x h => absurd h (Nat.not_lt_zero _), Below.refl _ _⟩
  case round =>
    obtain ⟨k, hkn', rfl, hat, hbel⟩ := hrel
    by_cases hkn : k < n
    case neg =>
      obtain rfl : k = n := by omega
      have hd : decide ((k : Int) < (k : Int)) = false := by simp
      have HE : Hid (R = -1) := by
        show R = -1
        rw [← HR.out]
        have h := fi_eq (P := fun x => x.1 == s) l k hat.out (fun x hx => by have := (List.getElem?_eq_some_iff.1 hx).1; have := HN.out; omega) (by have := HN.out; omega)
        unfold rfI idxOf
        rw [h, if_neg (by have := HN.out; omega)]
      go_wp2_with fail
      go_ret
      exact ⟨by rw [HE.out]; rfl, hbel.out⟩
    case pos =>
      have hd : decide ((k : Int) < (n : Int)) = true := by simp; omega
      have hkI : (0 : Int) ≤ (k : Int) := by omega
      have hkI2 : (k : Int) < (n : Int) := by omega
      have hsr := keepS HS.out hbel.out
      obtain ⟨bo, off, x, A3, c3, rfl, hbD, hx, g0, g1, hrow, hx64⟩ := lnk_at hsr.1 hkn
      obtain ⟨xs, xl⟩ := x
      simp only at g0 g1 hrow hx64
      have HX := Lib.hid hx
      clear hrow hx hbD hsr g1
      by_cases he : xs = s
      case pos =>
        subst he
        have HE : Hid (R = k) := by
          show R = k
          rw [← HR.out]
          have h := fi_eq (P := fun x => x.1 == xs) l k hat.out (fun x hx => by
            rw [HX.out] at hx
            injection hx with hx
            subst hx
            simp) (by have := HN.out; omega)
          unfold rfI idxOf
          rw [h, if_pos (by have := HN.out; omega)]
        go_wp2_with fail
        go_ret
        exact ⟨by rw [HE.out]; rfl, hbel.out⟩
      case neg =>
        have hd2 : ((xs : Int) == (s : Int)) = false := by rw [Bool.eq_false_iff]; intro h; exact he (by have := beq_iff_eq.1 h; omega)
        have HA : Hid (∀ (j : Nat) x, j < k + 1 → l[j]? = some x → (x.1 == s) = false) := fun j x hj hx => by
          rcases Nat.lt_or_ge j k with h | h
          · exact hat.out j x h hx
          · obtain rfl : j = k := by omega
            rw [HX.out] at hx
            injection hx with hx
            subst hx
            simpa using he
        go_wp2_with fail
        go_roundw
        case rel => exact ⟨k + 1, hkn, by go_num, HA, hbel⟩
        case measure => simp [intOf]; omega
set_option maxRecDepth 100000 in
set_option maxHeartbeats 4000000 in
theorem rextend_any {l : List Nat} (hs : rpU64.sl w D A n c l) (hD : ∀ k, D k → k < w.heap.size) (hn : n ≤ 1000000) (hp : p ≤ 18446744073709551615) :
    Calls Try.prog 43 #[.agg (lkV s A n c), .int .u64 (p : Int)] w fun e w' => ∃ (A' : Option Addr) (n' c' : Nat), e = .returned (.agg (lkV s A' n' c')) ∧ Row64 w' w.heap.size A' n' c' (extL (s, l) p).2 ∧ Below w.heap.size w w' := by
  have hb2 := below2 w (.cells (lkV s A n c) 57) (.cells #[.int .u64 0, .slice none 0 0] 57)
  have HB2 := Lib.hid hb2
  have HBD := Lib.hid (sl64_bd hs)
  have HN := Lib.hid (Rp.sl_len hs).1
  have K1 := Lib.hid (blk21 w 57 57 (lkV s A n c) #[.int .u64 0, .slice none 0 0])
  have K2 := Lib.hid (blk22 w 57 57 (lkV s A n c) #[.int .u64 0, .slice none 0 0])
  have HS := Lib.hid (keepS (show Sl rpU64 w D A n c l from ⟨hs, hD⟩) hb2)
  have HS0 := Lib.hid (show Sl rpU64 w D A n c l from ⟨hs, hD⟩)
  have HSZ : Hid ((Try.prog.info? 57).map (·.size) = some 2) := by show _ = _; kernel_rfl
  clear hb2 hs hD
  go_enter Try.func43, Try.ntmps43
  go_upto_region 1 with (fail)
  obtain ⟨gx, hgx⟩ : ∃ gx, gx = w.heap.size := ⟨_, rfl⟩
  rw [← hgx] at K1 K2 ⊢
  have HGX := Lib.hid hgx
  clear hgx
  generalize World.alloc (World.alloc w _) _ = w2 at *
  have k0 := (show Blk w2 gx 57 (lkV s A n c) from K1.out).cell 0
  have hb4 := below2 w2 (.cells #[.int .u64 (p : Int)] 22) (.cells (lkV s (some ⟨w2.heap.size, 0, none⟩) 1 1) 57)
  have HB4 := Lib.hid (stepB HB2.out hb4)
  have KP := Lib.hid (blk21 w2 22 57 #[.int .u64 (p : Int)] (lkV s (some ⟨w2.heap.size, 0, none⟩) 1 1))
  have KO := Lib.hid (blk22 w2 22 57 #[.int .u64 (p : Int)] (lkV s (some ⟨w2.heap.size, 0, none⟩) 1 1))
  have HW4 := Lib.hid hb4
  clear hb4
  go_upto_region 2 with (fail)
  obtain ⟨gp, hgp⟩ : ∃ gp, gp = w2.heap.size := ⟨_, rfl⟩
  rw [← hgp] at KP KO ⊢
  have HGP : Hid (gx + 1 < gp) := by show _ < _; rw [hgp]; exact (show Blk w2 (gx + 1) 57 _ from K2.out).lt
  have K14 := Lib.hid (keepB (show Blk w2 gx 57 (lkV s A n c) from K1.out) HW4.out)
  have K24 := Lib.hid (keepB (show Blk w2 (gx + 1) 57 #[.int .u64 0, .slice none 0 0] from K2.out) HW4.out)
  have S4 := Lib.hid (keepS HS.out HW4.out)
  have hown : (((w2.alloc (.cells #[.int .u64 (p : Int)] 22)).alloc (.cells (lkV s (some ⟨w2.heap.size, 0, none⟩) 1 1) 57))).ownsRow w.heap.size 22 1 (.slice (some ⟨w2.heap.size, 0, none⟩) 1 1) 1 [.int .u64 (p : Int)] := by
    have h1 := own_new w2 (base := w.heap.size) (by rw [← hgp]; have := HGP.out; have := HGX.out; omega) 22 1 #[.int .u64 (p : Int)] (n := 1) rfl (by decide)
    exact keepO h1 (below1 _ _)
  have HOW := Lib.hid hown
  clear hown HW4
  rw [← hgp] at HOW HB4 K14 K24 S4
  clear hgp k0
  generalize World.alloc (World.alloc w2 _) _ = w4 at *
  go_wp2_with fail
  go_loopw [6] (fun v6 wr => ∃ (i : Nat) (Ao : Option Addr) (co : Nat), i ≤ n ∧ i ≤ 3 ∧ v6 = .int .i64 (i : Int) ∧ Hid (wr.ownsRow w.heap.size 22 1 (.slice Ao (i + 1) co) (i + 1) (([p] ++ l.take i).map uv)) ∧ Hid (Blk wr (gp + 1) 57 (lkV s Ao (i + 1) co)) ∧ Hid (Blk wr gx 57 (lkV s A n c)) ∧ Hid (Blk wr (gx + 1) 57 #[.int .u64 0, .slice none 0 0]) ∧ Hid (Sl rpU64 wr D A n c l) ∧ Hid (Below w.heap.size w wr)) (fun v6 _ => n - (intOf v6).toNat)
  case atStart => exact ⟨0, some ⟨gp, 0, none⟩, 1, by omega, by omega, rfl, HOW.out, KO.out, K14.out, K24.out, S4.out, HB4.out⟩
  case round =>
    clear HOW KO K14 K24 S4 HB4 KP K1 K2 HS
    obtain ⟨i, Ao, co, hin', hi3, rfl, how, hko, hk1, hk2, hsl, hbel⟩ := hrel
    have x1 := (show Blk wr gx 57 (lkV s A n c) from hk1.out).cell 1
    have HZR := Lib.hid hbel.out.size
    by_cases hc : i < n ∧ i < 3
    case neg =>
      have HR : Hid (Row64 wr w.heap.size Ao (i + 1) co (extL (s, l) p).2) := by
        refine ⟨?_, fun x hx => ?_⟩
        · have h := how.out
          have e : [p] ++ l.take i = (extL (s, l) p).2 := by
            unfold extL
            show _ = (p :: l).take 4
            rw [List.take_succ_cons, List.singleton_append]
            congr 1
            rcases Nat.lt_or_ge i 3 with h3 | h3
            · have h4 : ¬ i < n := fun h => hc ⟨h, h3⟩
              have := HN.out
              rw [List.take_of_length_le (by omega), List.take_of_length_le (by omega)]
            · obtain rfl : i = 3 := by omega
              rfl
          rw [e] at h
          exact h
        · have h4 := List.mem_of_mem_take hx
          rw [List.mem_cons] at h4
          rcases h4 with rfl | h4
          · omega
          · exact HBD.out x h4
      have o0 := (show Blk wr (gp + 1) 57 (lkV s Ao (i + 1) co) from hko.out).cell 0
      have o1 := (show Blk wr (gp + 1) 57 (lkV s Ao (i + 1) co) from hko.out).cell 1
      have HFIN : Hid (∀ w6, Blk w6 (gx + 1) 57 (lkV s Ao (i + 1) co) → wr.grownBy w6 (some (gx + 1)) → Row64 w6 w.heap.size Ao (i + 1) co (extL (s, l) p).2 ∧ Below w.heap.size w w6) := fun w6 hblk hgr =>
        ⟨Row64.boxed HR.out hk2.out (by decide) hgr, hbel.out.grown hgr HZR.out (fun q hq => by have e' : gx + 1 = q := Option.some.inj hq; have := HGX.out; omega)⟩
      by_cases h1 : i < n
      case pos =>
        have hd1 : decide ((i : Int) < (n : Int)) = true := by simp; omega
        have hd2 : decide ((i : Int) < 3) = false := by have : ¬ i < 3 := fun h => hc ⟨h1, h⟩; simp; omega
        go_wp2_with (refine wpList_put_row rfl 57 (.tmp 4) (.tmp 33) rfl (gx + 1) (lkV s Ao (i + 1) co) rfl rfl 57 _ hk2.out HSZ.out rfl (by simp [Value.oneCell']) ?_; intro w6 hblk hgr)
        try rw [Exit.noGoto_ret]
        have y0 := (show Blk w6 (gx + 1) 57 (lkV s Ao (i + 1) co) from hblk).cell 0
        have y1 := (show Blk w6 (gx + 1) 57 (lkV s Ao (i + 1) co) from hblk).cell 1
        have hfin := HFIN.out w6 hblk hgr
        refine bodyPost_ret (v := .agg (lkV s Ao (i + 1) co)) (by simp [results, Try.results43, go_sem, y0, y1]) rfl ⟨Ao, i + 1, co, rfl, hfin⟩
      case neg =>
        have hd1 : decide ((i : Int) < (n : Int)) = false := by simp; omega
        go_wp2_with (refine wpList_put_row rfl 57 (.tmp 4) (.tmp 33) rfl (gx + 1) (lkV s Ao (i + 1) co) rfl rfl 57 _ hk2.out HSZ.out rfl (by simp [Value.oneCell']) ?_; intro w6 hblk hgr)
        try rw [Exit.noGoto_ret]
        have y0 := (show Blk w6 (gx + 1) 57 (lkV s Ao (i + 1) co) from hblk).cell 0
        have y1 := (show Blk w6 (gx + 1) 57 (lkV s Ao (i + 1) co) from hblk).cell 1
        have hfin := HFIN.out w6 hblk hgr
        refine bodyPost_ret (v := .agg (lkV s Ao (i + 1) co)) (by simp [results, Try.results43, go_sem, y0, y1]) rfl ⟨Ao, i + 1, co, rfl, hfin⟩
    case pos =>
      obtain ⟨h1, h3⟩ := hc
      have hd1 : decide ((i : Int) < (n : Int)) = true := by simp; omega
      have hd2 : decide ((i : Int) < 3) = true := by simp; omega
      have hiI : (0 : Int) ≤ (i : Int) := by omega
      have hiI2 : (i : Int) < (n : Int) := by omega
      obtain ⟨y, hy⟩ : ∃ y, l[i]? = some y := ⟨_, List.getElem?_eq_getElem (by have := HN.out; omega)⟩
      have HY := Lib.hid hy
      obtain ⟨bo, off, rfl, hbD, hcell⟩ : ∃ bo off, A = some ⟨bo, off, none⟩ ∧ D bo ∧ wr.cell? ⟨bo, off + i, none⟩ = some (.int .u64 (y : Int)) := by
        obtain ⟨bo, off, x, cs, hA, hb, hx, hcc, hg⟩ := Rp.sl_at hsl.out.1 h1
        rw [hy] at hx
        injection hx with hx
        subst hx
        obtain ⟨rfl, _⟩ := hcc
        refine ⟨bo, off, hA, hb, ?_⟩
        have h := hg 0 _ rfl
        have e : off + i * rpU64.size + 0 = off + i := by show off + i * 1 + 0 = off + i; omega
        rw [e] at h
        exact h
      have HDB := Lib.hid (hsl.out.2 _ hbD)
      clear hbD hy
      go_wp2_with fail
      have hbd : Below wr.heap.size wr (wr.drew.alloc (.cells #[.int .u64 (y : Int)] 22)) := ((Below.refl _ wr).drew).alloc (Nat.le_refl _) _
      have hbe : Below wr.heap.size wr wr.drew := (Below.refl _ wr).drew
      have x1d := (hbe.cell (p := ⟨gx, 1, none⟩) (show Blk wr gx 57 (lkV s (some ⟨bo, off, none⟩) n c) from hk1.out).lt).trans x1
      have o1 := (show Blk wr (gp + 1) 57 (lkV s Ao (i + 1) co) from hko.out).cell 1
      have o1d := (hbe.cell (p := ⟨gp + 1, 1, none⟩) (show Blk wr (gp + 1) 57 (lkV s Ao (i + 1) co) from hko.out).lt).trans o1
      have o1a := (hbd.cell (p := ⟨gp + 1, 1, none⟩) (show Blk wr (gp + 1) 57 (lkV s Ao (i + 1) co) from hko.out).lt).trans o1
      have o1b : (wr.alloc (.cells #[.int .u64 (y : Int)] 22)).drew.cell? ⟨gp + 1, 1, none⟩ = some (.slice Ao (i + 1) co) := o1a
      have x1a := (hbd.cell (p := ⟨gx, 1, none⟩) (show Blk wr gx 57 (lkV s (some ⟨bo, off, none⟩) n c) from hk1.out).lt).trans x1
      have hcd := (hbe.cell (p := ⟨bo, off + i, none⟩) HDB.out).trans hcell
      have hcd0 : wr.drew.cell? ⟨bo, off + i * 1, none⟩ = some (.int .u64 (y : Int)) := by rw [Nat.mul_one]; exact hcd
      have HOA := Lib.hid (keepO how.out hbd)
      have HSRC := Lib.hid (Src.new wr.drew (.int .u64 (y : Int)) 22 rfl)
      have KOA := Lib.hid (keepB (show Blk wr (gp + 1) 57 (lkV s Ao (i + 1) co) from hko.out) hbd)
      have o1f := (show Blk _ (gp + 1) 57 (lkV s Ao (i + 1) co) from KOA.out).frozen 1
      have K1A := Lib.hid (keepB (show Blk wr gx 57 (lkV s (some ⟨bo, off, none⟩) n c) from hk1.out) hbd)
      have K2A := Lib.hid (keepB (show Blk wr (gx + 1) 57 #[.int .u64 0, .slice none 0 0] from hk2.out) hbd)
      have SA := Lib.hid (keepS hsl.out hbd)
      have HBA := Lib.hid (stepB hbel.out hbd)
      have HMX : Hid (w.heap.size ≤ (wr.drew.alloc (.cells #[.int .u64 (y : Int)] 22)).heap.size) := Nat.le_trans HZR.out hbd.size
      have HNL : Hid (∀ g t cs, Blk wr g t cs → t ≠ 22 → some g ≠ (Value.slice Ao (i + 1) co).ownBlock) := fun g t cs hb ht e => by
        obtain ⟨cs', hcs⟩ := own_type how.out e.symm
        exact ht (blk_type hb hcs).symm
      have HNO := Lib.hid (HNL.out _ _ _ hko.out (by decide))
      have HNX := Lib.hid (HNL.out _ _ _ hk1.out (by decide))
      have HNZ := Lib.hid (HNL.out _ _ _ hk2.out (by decide))
      have HOL := Lib.hid (fun q (hq : (Value.slice Ao (i + 1) co).ownBlock = some q) => (how.out.lt q hq).1)
      clear hbd hbe
      go_region_law ((refine step_app rfl (.tmp 24) (.tmp 30) _ (by rfl) elem64 (by rfl) HOA.out (by rfl) HSRC.out (by unfold maxLen; omega) (by omega) HMX.out ?_
                      intro A6 c6 w6 ho6 hg6 hat6
                      have HO6 := Lib.hid ho6
                      have K6 := Lib.hid ((show Blk _ (gp + 1) 57 (lkV s Ao (i + 1) co) from KOA.out).grown hg6 HNO.out)
                      have o6 := (show Blk w6 (gp + 1) 57 (lkV s Ao (i + 1) co) from K6.out).cell 1
                      have o6f := (show Blk w6 (gp + 1) 57 (lkV s Ao (i + 1) co) from K6.out).frozen 1
                      have HG6 := Lib.hid hg6
                      clear ho6 hg6 hat6))
      all_goals
        have hgr : w6.grownBy (w6.setCell ⟨gp + 1, 1, none⟩ (.slice A6 (i + 1 + 1) c6)) (some (gp + 1)) := grown_setCell w6 ⟨gp + 1, 1, none⟩ _
        have K7 : Hid (Blk (w6.setCell ⟨gp + 1, 1, none⟩ (.slice A6 (i + 1 + 1) c6)) (gp + 1) 57 (lkV s A6 (i + 1 + 1) c6)) := (show Blk w6 (gp + 1) 57 (lkV s Ao (i + 1) co) from K6.out).put 1 _
        have X7 := Lib.hid (((show Blk _ gx 57 (lkV s (some ⟨bo, off, none⟩) n c) from K1A.out).grown HG6.out HNX.out).far (p := ⟨gp + 1, 1, none⟩) (by have := HGP.out; show gx ≠ gp + 1; omega) (.slice A6 (i + 1 + 1) c6))
        have Z7 := Lib.hid (((show Blk _ (gx + 1) 57 #[.int .u64 0, .slice none 0 0] from K2A.out).grown HG6.out HNZ.out).far (p := ⟨gp + 1, 1, none⟩) (by have := HGP.out; show gx + 1 ≠ gp + 1; omega) (.slice A6 (i + 1 + 1) c6))
        have HB6 := HBA.out.grown HG6.out HBA.out.size (fun q hq => HOL.out q hq)
        have HB7 := Lib.hid (HB6.grown hgr HB6.size (fun q hq => by have e' : gp + 1 = q := Option.some.inj hq; have := HGP.out; have := HGX.out; omega))
        have O7 : Hid ((w6.setCell ⟨gp + 1, 1, none⟩ (.slice A6 (i + 1 + 1) c6)).ownsRow w.heap.size 22 1 (.slice A6 (i + 1 + 1) c6) (i + 1 + 1) (([p] ++ l.take (i + 1)).map uv)) := by
          show World.ownsRow _ _ _ _ _ _ _
          rw [List.take_add_one, HY.out, Option.toList_some, ← List.append_assoc, List.map_append]
          exact own_sameT HO6.out (fun k cs hk _ _ => Below.heap_setCell w6 ⟨gp + 1, 1, none⟩ _ k (fun e => by
            have e' : k = gp + 1 := e
            subst e'
            exact absurd (blk_type (show Blk w6 (gp + 1) 57 _ from K6.out) hk) (by decide)))
        have S7 : Hid (Sl rpU64 (w6.setCell ⟨gp + 1, 1, none⟩ (.slice A6 (i + 1 + 1) c6)) D (some ⟨bo, off, none⟩) n c l) := keepS HS0.out HB7.out
        clear hgr HB6
        go_wp2_with fail
        go_roundw
        case rel => exact ⟨i + 1, A6, c6, by omega, by omega, by go_num, O7, K7, X7, Z7, S7, HB7⟩
        case measure => simp [intOf]; omega
end
end Go.Proofs.Ytcbmnfjbmkpfiaa
/- The document's Has and Of; plain facts. -/
namespace Go.Proofs.Ytcbmnfjbmkpfiaa
open Go.ChangeShapes Go.WideShapes Go.ChangeAt Go.RowKit
set_option linter.unusedVariables false
/-- Has an entry a link of a stream? -/
def hasB (e : Ent) (s : Nat) : Bool := decide (idxOf e.1 s < e.1.length)
theorem hasB_iff {e : Ent} {s : Nat} : hasB e s = true ↔ ∃ x ∈ e.1, x.1 = s := by
  unfold hasB idxOf
  rw [decide_eq_true_iff, List.findIdx_lt_length]
  simp
/-- What the document's Of tells. -/
def rofT (b s : Nat) : Nat → List Ent → List Nat
  | _, [] => []
  | i, e :: es => (if hasB e s then [posN b i] else []) ++ rofT b s (i + 1) es
theorem rofT_app (b s : Nat) : ∀ (i : Nat) (xs ys : List Ent), rofT b s i (xs ++ ys) = rofT b s i xs ++ rofT b s (i + xs.length) ys
  | i, [], ys => by simp [rofT]
  | i, x :: xs, ys => by
    rw [List.cons_append, rofT, rofT, rofT_app b s (i + 1) xs ys, List.append_assoc, List.length_cons]
    rw [show i + 1 + xs.length = i + (xs.length + 1) by omega]
theorem rofT_take {b s : Nat} {es : List Ent} {i : Nat} {e : Ent} (h : es[i]? = some e) : rofT b s 0 (es.take (i + 1)) = rofT b s 0 (es.take i) ++ if hasB e s then [posN b i] else [] := by
  have h1 : i < es.length := (List.getElem?_eq_some_iff.1 h).1
  rw [List.take_add_one, h, rofT_app, List.length_take, Nat.min_eq_left (by omega), Nat.zero_add]
  simp [rofT]
theorem rofT_len (b s : Nat) : ∀ (i : Nat) (es : List Ent), (rofT b s i es).length ≤ es.length
  | i, [] => Nat.le_refl _
  | i, e :: es => by
    have := rofT_len b s (i + 1) es
    rw [rofT, List.length_append, List.length_cons]
    split <;> simp <;> omega
theorem rofT_mem (b s x : Nat) : ∀ (i : Nat) (es : List Ent), x ∈ rofT b s i es ↔ x ∈ rawF s (lkB b i es)
  | i, [] => by simp [rofT, lkB, rawF]
  | i, e :: es => by
    have ih := rofT_mem b s x (i + 1) es
    rw [rofT, lkB]
    unfold rawF at ih ⊢
    rw [List.filter_append, List.map_append, List.mem_append, List.mem_append, ih]
    refine or_congr ?_ Iff.rfl
    constructor
    · intro h
      split at h
      · rename_i hh
        rw [List.mem_singleton] at h
        subst h
        obtain ⟨y, hy, rfl⟩ := hasB_iff.1 hh
        rw [List.mem_map]
        exact ⟨(posN b i, y), List.mem_filter.2 ⟨List.mem_map.2 ⟨y, hy, rfl⟩, by simp⟩, rfl⟩
      · cases h
    · intro h
      rw [List.mem_map] at h
      obtain ⟨z, hz, rfl⟩ := h
      obtain ⟨hz1, hz2⟩ := List.mem_filter.1 hz
      obtain ⟨y, hy, rfl⟩ := List.mem_map.1 hz1
      have e1 : y.1 = s := by simpa using hz2
      rw [if_pos (hasB_iff.2 ⟨y, hy, e1⟩)]
      simp
theorem rofT_up {b s : Nat} : ∀ (i : Nat) (es : List Ent), b + i + es.length ≤ 18446744073709551616 → (rofT b s i es).Pairwise (· < ·) ∧ ∀ x ∈ rofT b s i es, b + i ≤ x
  | i, [], _ => ⟨List.Pairwise.nil, fun x h => by cases h⟩
  | i, e :: es, h => by
    rw [List.length_cons] at h
    obtain ⟨h1, h2⟩ := rofT_up (b := b) (s := s) (i + 1) es (by omega)
    have hp : posN b i = b + i := Nat.mod_eq_of_lt (by omega)
    rw [rofT]
    split
    · rw [List.singleton_append]
      refine ⟨List.pairwise_cons.2 ⟨fun y hy => by have := h2 y hy; omega, h1⟩, fun x hx => ?_⟩
      rw [List.mem_cons] at hx
      rcases hx with rfl | hx
      · omega
      · have := h2 x hx; omega
    · rw [List.nil_append]
      exact ⟨h1, fun x hx => by have := h2 x hx; omega⟩
/-- Two lists that rise and have the same numbers are the same. -/
theorem up_same : ∀ (l m : List Nat), l.Pairwise (· < ·) → m.Pairwise (· < ·) → (∀ x, x ∈ l ↔ x ∈ m) → l = m
  | [], [], _, _, _ => rfl
  | [], y :: m, _, _, h => absurd ((h y).2 (List.mem_cons_self ..)) (by simp)
  | x :: l, [], _, _, h => absurd ((h x).1 (List.mem_cons_self ..)) (by simp)
  | x :: l, y :: m, h1, h2, h => by
    obtain ⟨a1, a2⟩ := List.pairwise_cons.1 h1
    obtain ⟨b1, b2⟩ := List.pairwise_cons.1 h2
    have hxy : x = y := by
      have e1 := (h x).1 (List.mem_cons_self ..)
      have e2 := (h y).2 (List.mem_cons_self ..)
      rw [List.mem_cons] at e1 e2
      rcases e1 with e1 | e1
      · exact e1
      · rcases e2 with e2 | e2
        · exact e2.symm
        · have := b1 x e1; have := a1 y e2; omega
    subst hxy
    rw [up_same l m a2 b2 (fun z => by
      have hz := h z
      rw [List.mem_cons, List.mem_cons] at hz
      constructor
      · intro hl
        rcases hz.1 (.inr hl) with e | e
        · subst e; exact absurd (a1 z hl) (by omega)
        · exact e
      · intro hm
        rcases hz.2 (.inr hm) with e | e
        · subst e; exact absurd (b1 z hm) (by omega)
        · exact e)]
theorem of_same {b s n : Nat} {es : List Ent} (hn : es.length = n) (h : NumOk b n) (hn1 : n ≤ 1000000) (hb : b ≤ 18446744073709551615) : ofL b es s = rofT b s 0 es := by
  have hf := num_fit h hn1 hb
  unfold ofL
  rw [hn, dec_true h, if_pos rfl]
  have hc := cpl_sorted (rawF_up (b := b) (s := s) (es := es) (by rw [hn]; exact hf))
  exact up_same _ _ hc.1 (rofT_up 0 es (by omega)).1 (fun x => (hc.2 x).trans (rofT_mem b s x 0 es).symm)
theorem of_some {b s n : Nat} {es : List Ent} (hn : es.length = n) (h : NumOk b n) (hn1 : n ≤ 1000000) (hb : b ≤ 18446744073709551615) : 0 < (rofT b s 0 es).length ↔ s ∈ rawS (lkB b 0 es) := by
  rw [List.length_pos_iff_exists_mem]
  unfold rawS
  rw [List.mem_map]
  constructor
  · rintro ⟨x, hx⟩
    rw [rofT_mem] at hx
    unfold rawF at hx
    obtain ⟨y, hy, rfl⟩ := List.mem_map.1 hx
    obtain ⟨h1, h2⟩ := List.mem_filter.1 hy
    exact ⟨y, h1, by simpa using h2⟩
  · rintro ⟨y, hy, rfl⟩
    refine ⟨y.1, (rofT_mem _ _ _ _ _).2 ?_⟩
    unfold rawF
    exact List.mem_map.2 ⟨y, List.mem_filter.2 ⟨hy, by simp⟩, rfl⟩
section
variable {D D' : Dom} {A B : Option Addr} {n c m d ep b s : Nat} {es : List Ent} {w : World}
set_option maxRecDepth 100000 in
set_option maxHeartbeats 4000000 in
theorem rhas26_any {e : Ent} (hs : rpLnk.sl w D A n c e.1) (hD : ∀ k, D k → k < w.heap.size) (hn : n ≤ 100000) (hss : s ≤ 18446744073709551615) :
    Calls Try.prog 58 #[.agg (entV A n c B m d), .int .u64 (s : Int)] w fun en w' => en = .returned (.bool (hasB e s)) ∧ Below w.heap.size w w' := by
  have hb1 := below1 w (.cells (entV A n c B m d) 45)
  have HB1 := Lib.hid hb1
  have K1 := Lib.hid (blk11 w 45 (entV A n c B m d))
  have S1 := Lib.hid (keepS (show Sl rpLnk w D A n c e.1 from ⟨hs, hD⟩) hb1)
  obtain ⟨q, hq⟩ : ∃ q, hasB e s = q := ⟨_, rfl⟩
  rw [hq]
  obtain ⟨R, hR⟩ : ∃ R, rfI e.1 s = R := ⟨_, rfl⟩
  have hqr : decide (R ≥ 0) = q := by
    rw [← hq, ← hR]
    unfold hasB rfI
    by_cases h : idxOf e.1 s < e.1.length
    · rw [if_pos h]; simp [h]
    · rw [if_neg h]; simp; omega
  have hqr2 : decide ((0 : Int) ≤ R) = q := hqr
  have HR := Lib.hid hR
  clear hs hD hb1 hq hR
  go_enter Try.func58, Try.ntmps58
  go_upto_region 1 with (fail)
  generalize World.alloc w _ = w1 at *
  have k0 := (show Blk w1 w.heap.size 45 (entV A n c B m d) from K1.out).cell 0
  have hf := rfind_any (s := s) S1.out.1 S1.out.2 hn hss
  rw [HR.out] at hf
  have HF := Lib.hid hf
  clear hf
  go_wp2_with fail
  refine HF.out.mono ?_; rintro e w2 ⟨rfl, hb2⟩
  have HB2 := Lib.hid (stepB HB1.out hb2)
  clear hb2 k0
  go_wp2_with fail
  go_ret
  exact ⟨rfl, HB2.out⟩
set_option maxRecDepth 100000 in
set_option maxHeartbeats 4000000 in
theorem rof_any (hs : rpEnt.sl w D A n c es) (hD : ∀ k, D k → k < w.heap.size) (hn : n ≤ 30) (hM : ∀ e ∈ es, e.1.length ≤ 50) (hb : b ≤ 18446744073709551615) (hss : s ≤ 18446744073709551615) :
    Calls Try.prog 25 #[.agg (batV ep b A n c), .int .u64 (s : Int)] w fun e w' => Below w.heap.size w w' ∧ ∃ A' n' c', e = .returned (.slice A' n' c') ∧ Row64 w' w.heap.size A' n' c' (rofT b s 0 es) := by
  have hb1 := below1 w (.cells (batV ep b A n c) 25)
  have HB1 := Lib.hid hb1
  have K1 := Lib.hid (blk11 w 25 (batV ep b A n c))
  have S1 := Lib.hid (keepS (show Sl rpEnt w D A n c es from ⟨hs, hD⟩) hb1)
  have HN := Lib.hid (Rp.sl_len hs).1
  have HSS := Lib.hid (show Sl rpEnt w D A n c es from ⟨hs, hD⟩)
  have HM := Lib.hid hM
  have HHB := Lib.hid hb
  obtain ⟨gz, hgz⟩ : ∃ gz, gz = w.heap.size := ⟨_, rfl⟩
  rw [← hgz] at K1
  have HGZ := Lib.hid hgz
  clear hs hD hb1 hM hb
  go_enter Try.func25, Try.ntmps25
  go_upto_region 1 with (fail)
  rw [← hgz]
  clear hgz
  generalize World.alloc w _ = w1 at *
  go_wp2_with fail
  go_loopw [5, 6] (fun v5 v6 wr => ∃ (i no : Nat) (Ao : Option Addr) (co : Nat), i ≤ n ∧ v5 = .slice Ao no co ∧ v6 = .int .i64 (i : Int) ∧ Hid (Row64 wr w.heap.size Ao no co (rofT b s 0 (es.take i))) ∧ Hid (Blk wr gz 25 (batV ep b A n c)) ∧ Hid (Sl rpEnt wr D A n c es) ∧ Hid (Below w.heap.size w wr)) (fun _ v6 _ => n - (intOf v6).toNat)
  case atStart => exact ⟨0, 0, none, 0, by omega, rfl, rfl, Row64.nil _ _, K1.out, S1.out, HB1.out⟩
  case round =>
    clear K1 S1 HB1
    obtain ⟨i, no, Ao, co, hi, rfl, rfl, hrow, hk1, hsl, hbel⟩ := hrel
    have z1 := (show Blk wr gz 25 (batV ep b A n c) from hk1.out).cell 1
    have z2 := (show Blk wr gz 25 (batV ep b A n c) from hk1.out).cell 2
    by_cases hin : i < n
    case neg =>
      obtain rfl : i = n := by omega
      have hd : decide ((i : Int) < (i : Int)) = false := by simp
      have HE : Hid (Row64 wr w.heap.size Ao no co (rofT b s 0 es)) := by
        have h := hrow.out
        rw [List.take_of_length_le (by have := HN.out; omega)] at h
        exact h
      go_wp2_with fail
      go_ret
      exact ⟨hbel.out, Ao, no, co, rfl, HE.out⟩
    case pos =>
      have hd : decide ((i : Int) < (n : Int)) = true := by simp; omega
      have hiI : (0 : Int) ≤ (i : Int) := by omega
      have hiI2 : (i : Int) < (n : Int) := by omega
      have hsr := hsl.out
      obtain ⟨bo, off, x, A3, c3, B3, d3, rfl, hbD, hx, g0, g1, hrw, hdat⟩ := ent_at hsr.1 hin
      obtain ⟨xL, xd⟩ := x
      simp only at g0 g1 hrw
      have HX := Lib.hid hx
      obtain ⟨xn, hxn⟩ : ∃ xn, xn = xL.length := ⟨_, rfl⟩
      obtain ⟨dn, hdn⟩ : ∃ dn, dn = xd.length := ⟨_, rfl⟩
      rw [← hxn] at g0 hrw
      rw [← hdn] at g1
      have hx50 : xn ≤ 50 := by rw [hxn]; exact HM.out _ (List.mem_of_getElem? hx)
      obtain ⟨q, hq⟩ : ∃ q, hasB (xL, xd) s = q := ⟨_, rfl⟩
      have hh := rhas26_any (e := (xL, xd)) (s := s) (B := B3) (m := dn) (d := d3) (c := c3) hrw hsr.2 (by omega) hss
      rw [hq] at hh
      have HH := Lib.hid hh
      have HQ := Lib.hid hq
      have hno : no ≤ 30 := by
        have h1 := hrow.out.len
        have h2 := rofT_len b s 0 (es.take i)
        rw [List.length_take] at h2
        omega
      clear hrw hdat hx hbD hsr hxn hdn hq hh
      go_wp2_with fail
      refine HH.out.mono ?_; rintro e w5 ⟨rfl, hb5⟩
      have HB5 := Lib.hid (stepB hbel.out hb5)
      have K5 := Lib.hid (keepB (show Blk wr gz 25 (batV ep b (some ⟨bo, off, none⟩) n c) from hk1.out) hb5)
      have S5 := Lib.hid (keepS hsl.out hb5)
      have R5 := Lib.hid (Row64.below hrow.out hb5)
      clear hb5 z1 z2 g0 g1
      have z1 := (show Blk w5 gz 25 (batV ep b (some ⟨bo, off, none⟩) n c) from K5.out).cell 1
      cases q
      case false =>
        have HR : Hid (Row64 w5 w.heap.size Ao no co (rofT b s 0 (es.take (i + 1)))) := by
          show Row64 _ _ _ _ _ _
          rw [rofT_take HX.out, HQ.out, if_neg (by decide), List.append_nil]; exact R5.out
        go_wp2_with fail
        go_roundw
        case rel => exact ⟨i + 1, no, Ao, co, by omega, rfl, by go_num, HR, K5, S5, HB5⟩
        case measure => simp [intOf]; omega
      case true =>
        obtain ⟨p, hp⟩ : ∃ p, p = posN b i := ⟨_, rfl⟩
        have hpw : IntKind.u64.wrap ((b : Int) + (i : Int)) = (p : Int) := by rw [hp]; exact posN_wrap HHB.out (by omega)
        have hiw : IntKind.u64.wrap (i : Int) = (i : Int) := IntWalk.u64_in _ (by omega)
        have HP := Lib.hid hp
        have hba := below1 w5 (.cells #[.int .u64 (p : Int)] 22)
        have O6 := Lib.hid (keepO R5.out.1 hba)
        have K6 := Lib.hid (keepB (show Blk w5 gz 25 (batV ep b (some ⟨bo, off, none⟩) n c) from K5.out) hba)
        have HB6 := Lib.hid (stepB HB5.out hba)
        have HSRC := Lib.hid (Src.new w5 (.int .u64 (p : Int)) 22 rfl)
        have HZ6 := Lib.hid (Nat.le_trans HB5.out.size hba.size)
        have HNZ : Hid (some gz ≠ (Value.slice Ao no co).ownBlock) := fun e => by
          obtain ⟨cs', hcs⟩ := own_type R5.out.1 e.symm
          exact absurd (blk_type (show Blk w5 gz 25 _ from K5.out) hcs) (by decide)
        have hpl : p < 18446744073709551616 := by have := posN_le b i; omega
        clear hp hba
        go_wp2_with
          (at_builtin; refine wpList_app rfl (.tmp 21) (.tmp 27) _ rfl elem64 rfl O6.out rfl HSRC.out (by unfold maxLen; omega) (by omega) HZ6.out ?_; intro A7 c7 w7 ho7 hg7 hat7
           have O7 := Lib.hid ho7
           have K7 := Lib.hid ((show Blk _ gz 25 (batV ep b (some ⟨bo, off, none⟩) n c) from K6.out).grown hg7 HNZ.out)
           have HB7 := Lib.hid (HB6.out.grown hg7 HZ6.out (fun q hq => (O6.out.lt q hq).1))
           clear ho7 hg7 hat7)
        have HR : Hid (Row64 w7 w.heap.size A7 (no + 1) c7 (rofT b s 0 (es.take (i + 1)))) := by
          refine ⟨?_, fun x hx => ?_⟩
          · rw [rofT_take HX.out, HQ.out, if_pos rfl, ← HP.out, List.map_append]; exact O7.out
          · rw [rofT_take HX.out, HQ.out, if_pos rfl, ← HP.out, List.mem_append, List.mem_singleton] at hx
            rcases hx with hx | rfl
            · exact R5.out.2 x hx
            · exact hpl
        have S7 : Hid (Sl rpEnt w7 D (some ⟨bo, off, none⟩) n c es) := keepS HSS.out HB7.out
        go_roundw
        case rel => exact ⟨i + 1, no + 1, A7, c7, by omega, rfl, by go_num, HR, K7, S7, HB7⟩
        case measure => simp [intOf]; omega
end
end Go.Proofs.Ytcbmnfjbmkpfiaa
/- PeekFinds: the walk. -/
namespace Go.Proofs.Ytcbmnfjbmkpfiaa
open Go.ChangeShapes Go.WideShapes Go.ChangeAt Go.RowKit
set_option linter.unusedVariables false
theorem up_rises {l : List Nat} (h : l.Pairwise (· < ·)) : Rises l := fun i a b ha hb => by
  obtain ⟨h1, rfl⟩ := List.getElem?_eq_some_iff.1 ha
  obtain ⟨h2, rfl⟩ := List.getElem?_eq_some_iff.1 hb
  exact List.pairwise_iff_getElem.1 h i (i + 1) h1 h2 (by omega)
section
variable {D : Dom} {A : Option Addr} {n c ep b p s : Nat} {es : List Ent} {w : World}
set_option maxRecDepth 100000 in
set_option maxHeartbeats 8000000 in
theorem peekFinds_any (hs : rpEnt.sl w D A n c es) (hD : ∀ k, D k → k < w.heap.size) (he : ep ≤ 18446744073709551615) (hb : b ≤ 18446744073709551615) (hp : p ≤ 18446744073709551615) (hss : s ≤ 18446744073709551615) :
    Calls Try.prog 6 #[.agg (batV ep b A n c), .int .u64 (p : Int), .int .u64 (s : Int)] w fun e w' => e = .returned (.bool true) ∧ Below w.heap.size w w' := by
  have hb1 := below1 w (.cells (batV ep b A n c) 25)
  have HB1 := Lib.hid hb1
  have K1 := Lib.hid (blk11 w 25 (batV ep b A n c))
  have S1 := Lib.hid (keepS (show Sl rpEnt w D A n c es from ⟨hs, hD⟩) hb1)
  have HN := Lib.hid (Rp.sl_len hs).1
  have HHE := Lib.hid he
  have HHB := Lib.hid hb
  have HPP := Lib.hid hp
  have HSS := Lib.hid hss
  clear hs hD hb1 he hb hp hss
  go_enter Try.func6, Try.ntmps6
  go_upto_region 1 with (fail)
  obtain ⟨gz, hgz⟩ : ∃ gz, gz = w.heap.size := ⟨_, rfl⟩
  rw [← hgz] at K1 ⊢
  clear hgz
  generalize World.alloc w _ = w1 at *
  have k0 := (show Blk w1 gz 25 (batV ep b A n c) from K1.out).cell 0
  have k1 := (show Blk w1 gz 25 (batV ep b A n c) from K1.out).cell 1
  have k2 := (show Blk w1 gz 25 (batV ep b A n c) from K1.out).cell 2
  have HLG := Lib.hid (blong_any (ep := ep) (b := b) S1.out.1 S1.out.2)
  go_wp2_with fail
  refine HLG.out.mono ?_; rintro e w2 ⟨r1, rfl, hr1, hb2⟩
  have HB2 := Lib.hid (stepB HB1.out hb2)
  have K2 := Lib.hid (keepB (show Blk w1 gz 25 (batV ep b A n c) from K1.out) hb2)
  have S2 := Lib.hid (keepS S1.out hb2)
  clear hb2 k0 k1 k2
  cases r1
  case true =>
    clear hr1
    have HLV := Lib.hid (live26_any w2)
    go_wp2_with fail
    refine HLV.out.mono ?_; rintro e wz ⟨rfl, hbz⟩
    have HBZ := Lib.hid (stepB HB2.out hbz)
    clear hbz
    go_wp2_with fail
    go_ret
    exact ⟨rfl, HBZ.out⟩
  case false =>
  have BD := Lib.hid (hr1 rfl)
  clear hr1 K1 S1 HB1 HLG
  have hn30 : n ≤ 30 := by rw [← HN.out]; exact BD.out.1.1
  have HM50 : Hid (∀ e ∈ es, e.1.length ≤ 50) := fun e he => (BD.out.1.2 e he).1.1
  have k0 := (show Blk w2 gz 25 (batV ep b A n c) from K2.out).cell 0
  have k1 := (show Blk w2 gz 25 (batV ep b A n c) from K2.out).cell 1
  have k2 := (show Blk w2 gz 25 (batV ep b A n c) from K2.out).cell 2
  obtain ⟨okv, hokv⟩ : ∃ o, dec (AtOk b n p) = o := ⟨_, rfl⟩
  have HOK := Lib.hid hokv
  have HAT := Lib.hid (at_any26 (ep := ep) (b := b) (p := p) S2.out.1 S2.out.2 BD.out.ebd HHB.out HPP.out)
  clear hokv
  go_upto_region 4 with
    (go_at_call 20
     refine HAT.out.mono ?_
     rintro e w3 hat
     obtain ⟨hb3, hcs⟩ := hat
     have hform : ∃ Ae ne ce Be me de xL xd, e = .returned (.tuple #[.agg (entV Ae ne ce Be me de), .bool okv]) ∧ rpLnk.sl w3 (fun k => k < w3.heap.size) Ae ne ce xL ∧ rpU8.sl w3 (fun k => k < w3.heap.size) Be me de xd ∧ (okv = true → AtOk b n p ∧ es[p - b]? = some (xL, xd)) ∧ (okv = false → ne = 0 ∧ me = 0 ∧ xL = [] ∧ xd = []) := by
       rw [HN.out] at hcs
       rcases hcs with ⟨h0, x, hx, A', n', c', B', m', d', h1, h2, h3⟩ | ⟨h0, h1⟩
       · have : okv = true := by rw [← HOK.out]; exact dec_true h0
         subst this
         exact ⟨A', n', c', B', m', d', x.1, x.2, h1, OL.sl h2, Rp.sl_more (Row8.sl h3 (TS := TD) (.inr rfl) (fun _ => False)) (fun k hk => hk.1), fun _ => ⟨h0, hx⟩, fun h => by cases h⟩
       · have : okv = false := by rw [← HOK.out]; exact dec_false h0
         subst this
         exact ⟨none, 0, 0, none, 0, 0, [], [], h1, Rp.sl_nil _ _ _ _ _ (by decide), Rp.sl_nil _ _ _ _ _ (by decide), (fun h => by cases h), fun _ => ⟨rfl, rfl, rfl, rfl⟩⟩
     obtain ⟨Ae, ne, ce, Be, me, de, xL, xd, rfl, hxL, hxd, hy1, hy2⟩ := hform
     have hba := below1 w3 (.cells (entV Ae ne ce Be me de) 45)
     have HB4 := Lib.hid (stepB HB2.out (stepB hb3 hba))
     have K4 := Lib.hid (keepB (show Blk w2 gz 25 (batV ep b A n c) from K2.out) (stepB hb3 hba))
     have S4 := Lib.hid (keepS S2.out (stepB hb3 hba))
     have X4 := Lib.hid (keepS (show Sl rpLnk w3 _ Ae ne ce xL from ⟨hxL, fun k hk => hk⟩) hba)
     have Y4 := Lib.hid (keepS (show Sl rpU8 w3 _ Be me de xd from ⟨hxd, fun k hk => hk⟩) hba)
     have KE := Lib.hid (blk11 w3 45 (entV Ae ne ce Be me de))
     have HY1 := Lib.hid hy1
     have HY2 := Lib.hid hy2
     clear hcs hxL hxd hb3 hba hy1 hy2 k0 k1 k2)
  obtain ⟨ge, hge⟩ : ∃ ge, ge = w3.heap.size := ⟨_, rfl⟩
  rw [← hge] at KE ⊢
  clear hge
  generalize World.alloc w3 _ = w4 at *
  clear K2 S2 HB2 HAT
  obtain ⟨ol, hol⟩ : ∃ ol, ol = ofL b es s := ⟨_, rfl⟩
  have HOL := Lib.hid hol
  clear hol
  go_cut [9, 10] (fun v9 v10 wx => ∃ (Ao : Option Addr) (no co : Nat) (At : Option Addr) (nt ct : Nat) (st : List Nat), v9 = .slice Ao no co ∧ v10 = .slice At nt ct ∧ Hid (Row64 wx w4.heap.size Ao no co ol) ∧ Hid (Row64 wx w4.heap.size At nt ct st) ∧ Hid (st.Pairwise (· < ·)) ∧ Hid (∀ x, x ∈ st ↔ NumOk b n ∧ x ∈ rawS (lkB b 0 es)) ∧ Hid (Below w4.heap.size w4 wx))
  case first =>
    have hbe : Below w4.heap.size w4 w4.drew := (Below.refl _ w4).drew
    have K5 := Lib.hid (keepB (show Blk w4 gz 25 (batV ep b A n c) from K4.out) hbe)
    have S5 := Lib.hid (keepS S4.out hbe)
    have HBE := Lib.hid hbe
    have t0 := (show Blk w4 gz 25 (batV ep b A n c) from K4.out)
    have HO := Lib.hid (of_any (ep := ep) (b := b) (s := s) S5.out.1 S5.out.2 hn30 HM50.out HHB.out HSS.out)
    have HLAY : Hid (∀ u, Below w4.heap.size w4 u → u.cell? ⟨gz, 0, none⟩ = some (.int .u64 (ep : Int)) ∧ u.cell? ⟨gz, 1, none⟩ = some (.int .u64 (b : Int)) ∧ u.cell? ⟨gz, 2, none⟩ = some (.slice A n c)) := fun u hu =>
      ⟨(keepB t0 hu).cell 0, (keepB t0 hu).cell 1, (keepB t0 hu).cell 2⟩
    have t1 := HLAY.out _ (Below.refl _ w4)
    have t2 := HLAY.out _ hbe
    clear hbe t0
    go_region_held3 (fun w' => w'.cell? ⟨gz, 0, none⟩ = some (.int .u64 (ep : Int)) ∧ w'.cell? ⟨gz, 1, none⟩ = some (.int .u64 (b : Int)) ∧ w'.cell? ⟨gz, 2, none⟩ = some (.slice A n c))
      (first | exact t1 | exact t2 | exact t3 | exact t4)
      (first
       | (go_at_call 21
          refine HO.out.mono ?_
          rintro e w6 ⟨hb6, Ao, no, co, rfl, hr6⟩
          have HB6 := Lib.hid (stepB HBE.out hb6)
          have R6 := Lib.hid hr6
          have t3 := HLAY.out _ HB6.out
          have S6 := Lib.hid (keepS S5.out hb6)
          have HST := Lib.hid (streams_any (ep := ep) (b := b) S6.out.1 S6.out.2 hn30 HM50.out HHB.out)
          clear hb6 hr6)
       | (go_at_call 22
          refine HST.out.mono ?_
          rintro e w7 ⟨hb7, At, nt, ct, st, rfl, hr7, hpw, hmem⟩
          have HB7 := Lib.hid (stepB HB6.out hb7)
          have R7 := Lib.hid (Row64.lo hr7 HB6.out.size)
          have O7 := Lib.hid (Row64.below R6.out hb7)
          have HPW := Lib.hid hpw
          have HME := Lib.hid hmem
          have t4 := HLAY.out _ HB7.out
          clear hb7 hr7 hpw hmem))
    go_wp2_with fail
    go_meet
    exact ⟨Ao, no, co, At, nt, ct, st, rfl, rfl, by rw [HOL.out]; exact O7.out, R7, HPW, by rw [← HN.out]; exact HME, HB7⟩
  case rest =>
  obtain ⟨Ao, no, co, At, nt, ct, st, rfl, rfl, RO, RT, HPW, HME, HB7⟩ := hcut
  obtain ⟨w7, hw7⟩ : ∃ w7, w7 = wc := ⟨_, rfl⟩
  subst hw7
  have K7 := Lib.hid (keepB (show Blk w4 gz 25 (batV ep b A n c) from K4.out) HB7.out)
  have S7 := Lib.hid (keepS S4.out HB7.out)
  have E7 := Lib.hid (keepB (show Blk w4 ge 45 (entV Ae ne ce Be me de) from KE.out) HB7.out)
  have X7 := Lib.hid (keepS X4.out HB7.out)
  have Y7 := Lib.hid (keepS Y4.out HB7.out)
  have HB70 := Lib.hid (stepB HB4.out HB7.out)
  clear K4 S4 KE X4 Y4 HB4 HB7
  have HNO := Lib.hid RO.out.len
  have HNT := Lib.hid RT.out.len
  have hntm : nt ≤ maxLen := by obtain ⟨_, h1, h2⟩ := Rp.sl_len RT.out.rd; omega
  unfold maxLen at hntm
  obtain ⟨en, hen⟩ : ∃ en, en = endN b n := ⟨_, rfl⟩
  have HEN := Lib.hid hen
  have hwn : IntKind.u64.wrap (n : Int) = (n : Int) := IntWalk.u64_in _ (by omega)
  have hwe : IntKind.u64.wrap ((b : Int) + (n : Int)) = (en : Int) := by
    rw [hen]
    exact posN_wrap HHB.out (by omega)
  clear hen
  have k1 := (show Blk w7 gz 25 (batV ep b A n c) from K7.out).cell 1
  have k2 := (show Blk w7 gz 25 (batV ep b A n c) from K7.out).cell 2
  by_cases hnum : NumOk b n
  case neg =>
    have hd6 : decide ((en : Int) < (b : Int)) = true := by have := HEN.out; unfold NumOk at hnum; simp; omega
    have hd6b : decide (en < b) = true := by have := HEN.out; unfold NumOk at hnum; simp; omega
    have hokf : okv = false := by rw [← HOK.out]; exact dec_false (fun h => hnum h.1)
    subst hokf
    obtain ⟨e1, e2, e3, e4⟩ := HY2.out rfl
    subst e1; subst e2; subst e3; subst e4
    have hol0 : ol = [] := by rw [HOL.out]; unfold ofL; rw [HN.out, dec_false hnum]; rfl
    have hst0 : st = [] := List.eq_nil_iff_forall_not_mem.2 (fun x hx => hnum ((HME.out x).1 hx).1)
    have hno0 : no = 0 := by have := HNO.out; rw [hol0] at this; exact this.symm
    have hnt0 : nt = 0 := by have := HNT.out; rw [hst0] at this; exact this.symm
    subst hno0; subst hnt0
    have x0 := (show Blk w7 ge 45 (entV Ae 0 ce Be 0 de) from E7.out).cell 0
    have x1 := (show Blk w7 ge 45 (entV Ae 0 ce Be 0 de) from E7.out).cell 1
    have hsm := esame_any X7.out.1 (Rp.sl_nil rpLnk w7 (fun _ => False) none 0 (by decide)) X7.out.2 (fun k hk => hk.elim) Y7.out.1 (Rp.sl_nil rpU8 w7 (fun _ => False) none 0 (by decide)) Y7.out.2 (fun k hk => hk.elim)
    rw [dec_true rfl] at hsm
    have HSM := Lib.hid hsm
    clear hsm hol0 hst0
    go_wp2_with fail
    refine HSM.out.mono ?_; rintro e w8 ⟨rfl, hb8⟩
    have HB8 := Lib.hid (stepB HB70.out hb8)
    have HLV := Lib.hid (live26_any w8)
    clear hb8 x0 x1 k1 k2
    go_wp2_with fail
    refine HLV.out.mono ?_; rintro e wz ⟨rfl, hbz⟩
    have HBZ := Lib.hid (stepB HB8.out hbz)
    clear hbz
    go_wp2_with fail
    go_ret
    exact ⟨rfl, HBZ.out⟩
  case pos =>
  have HNUM := Lib.hid hnum
  have hd6 : decide ((en : Int) < (b : Int)) = false := by have := HEN.out; unfold NumOk at hnum; simp; omega
  have hd6b : decide (en < b) = false := by have := HEN.out; unfold NumOk at hnum; simp; omega
  clear hnum
  go_upto_region 8 with (fail)
  go_cut [12] (fun v12 wx => v12 = .bool okv ∧ wx = w7)
  case first =>
    by_cases h1 : b ≤ p
    case neg =>
      have hd1 : decide ((p : Int) ≥ (b : Int)) = false := by simp; omega
      have hd1b : decide (b ≤ p) = false := by simp; omega
      obtain rfl : okv = false := by rw [← HOK.out]; exact dec_false (fun h => h1 h.2.1)
      go_wp2_with fail
      go_meet
      exact ⟨rfl, rfl⟩
    case pos =>
      have hd1 : decide ((p : Int) ≥ (b : Int)) = true := by simp; omega
      have hd1b : decide (b ≤ p) = true := by simp; omega
      obtain rfl : okv = decide (p < en) := by
        rw [← HOK.out]
        have : AtOk b n p ↔ p < en := ⟨fun h => by have := h.2.2; rw [← HEN.out] at this; exact this, fun h => ⟨HNUM.out, h1, by rw [← HEN.out]; exact h⟩⟩
        rw [dec_congr this]
        by_cases h3 : p < en
        · rw [dec_true h3, decide_eq_true h3]
        · rw [dec_false h3, decide_eq_false h3]
      go_wp2_with fail
      go_meet
      exact ⟨by simp, rfl⟩
  case rest =>
  obtain ⟨rfl, hwc⟩ := hcut
  subst hwc
  have hon : (okv != okv) = false := by cases okv <;> rfl
  go_upto_region 9 with (fail)
  obtain ⟨w8, hw8⟩ : ∃ w8, w8 = wc := ⟨_, rfl⟩
  subst hw8
  go_cut [94] (fun v94 wx => v94 = .bool false ∧ Hid (Below w8.heap.size w8 wx))
  case first =>
    have m1 : ∀ u : Gr w8.heap.size w8, u.val.cell? ⟨gz, 1, none⟩ = some (.int .u64 (b : Int)) := fun u => (keepB (show Blk w8 gz 25 (batV ep b A n c) from K7.out) u.is).cell 1
    have m2 : ∀ u : Gr w8.heap.size w8, u.val.cell? ⟨gz, 2, none⟩ = some (.slice A n c) := fun u => (keepB (show Blk w8 gz 25 (batV ep b A n c) from K7.out) u.is).cell 2
    cases okv
    case false =>
      obtain ⟨e1, e2, e3, e4⟩ := HY2.out rfl
      subst e1; subst e2; subst e3; subst e4
      have x0 : ∀ u : Gr w8.heap.size w8, u.val.cell? ⟨ge, 0, none⟩ = some (.slice Ae 0 ce) := fun u => (keepB (show Blk w8 ge 45 (entV Ae 0 ce Be 0 de) from E7.out) u.is).cell 0
      have x1 : ∀ u : Gr w8.heap.size w8, u.val.cell? ⟨ge, 1, none⟩ = some (.slice Be 0 de) := fun u => (keepB (show Blk w8 ge 45 (entV Ae 0 ce Be 0 de) from E7.out) u.is).cell 1
      have hsma : ∀ u : Gr w8.heap.size w8, Calls Try.prog 23 #[.agg (entV Ae 0 ce Be 0 de), .agg (entV none 0 0 none 0 0)] u.val fun e w' => e = .returned (.bool true) ∧ Below u.val.heap.size u.val w' := fun u => by
        have hx := keepS X7.out u.is
        have hy := keepS Y7.out u.is
        have h := esame_any hx.1 (Rp.sl_nil rpLnk u.val (fun _ => False) none 0 (by decide)) hx.2 (fun k hk => hk.elim) hy.1 (Rp.sl_nil rpU8 u.val (fun _ => False) none 0 (by decide)) hy.2 (fun k hk => hk.elim)
        rw [dec_true rfl] at h
        exact h
      have HSMA := Lib.hid hsma
      clear hsma k1 k2
      refine wp_region_grow (by kernel_rfl) (by kernel_rfl) w8.heap.size ?_
      repeat (first | go_big_quiet_step ((first | (go_at_call 23; exact Gr.call _ (Nat.le_refl _) (HSMA.out _)))) | quiet_step ((first | (go_at_call 23; exact Gr.call _ (Nat.le_refl _) (HSMA.out _)))))
      refine wpQuiet_nil ?_
      rintro w9 ⟨⟨_, hb9⟩, rfl⟩
      go_wp2_with fail
      go_meet
      exact ⟨by first | rfl | simp, hb9⟩
    case true =>
      obtain ⟨hat, hxi⟩ := HY1.out rfl
      obtain ⟨i, hi⟩ : ∃ i, i = p - b := ⟨_, rfl⟩
      rw [← hi] at hxi
      have hin : i < n := by have := (List.getElem?_eq_some_iff.1 hxi).1; have := HN.out; omega
      have hpb := hat.2.1
      have hwi : IntKind.u64.wrap ((p : Int) - (b : Int)) = (i : Int) := by have := HPP.out; rw [IntWalk.u64_in _ (by omega)]; omega
      obtain ⟨bo, off, x, A3, c3, B3, d3, rfl, hbD, hx, g0, g1, hrow, hdat⟩ := ent_at S7.out.1 hin
      rw [hxi] at hx
      injection hx with hx
      subst hx
      simp only at g0 g1 hrow hdat
      obtain ⟨xn, hxn⟩ : ∃ xn, xn = xL.length := ⟨_, rfl⟩
      obtain ⟨dn, hdn⟩ : ∃ dn, dn = xd.length := ⟨_, rfl⟩
      rw [← hxn] at g0 hrow
      rw [← hdn] at g1 hdat
      have HDB := Lib.hid (S7.out.2 _ hbD)
      have m3 : ∀ u : Gr w8.heap.size w8, u.val.cell? ⟨bo, off + i * 2, none⟩ = some (.slice A3 xn c3) := fun u => (u.is.cell (p := ⟨bo, off + i * 2, none⟩) HDB.out).trans g0
      have m4 : ∀ u : Gr w8.heap.size w8, u.val.cell? ⟨bo, off + i * 2 + 1, none⟩ = some (.slice B3 dn d3) := fun u => (u.is.cell (p := ⟨bo, off + i * 2 + 1, none⟩) HDB.out).trans g1
      have x0 : ∀ u : Gr w8.heap.size w8, u.val.cell? ⟨ge, 0, none⟩ = some (.slice Ae ne ce) := fun u => (keepB (show Blk w8 ge 45 (entV Ae ne ce Be me de) from E7.out) u.is).cell 0
      have x1 : ∀ u : Gr w8.heap.size w8, u.val.cell? ⟨ge, 1, none⟩ = some (.slice Be me de) := fun u => (keepB (show Blk w8 ge 45 (entV Ae ne ce Be me de) from E7.out) u.is).cell 1
      have hsma : ∀ u : Gr w8.heap.size w8, Calls Try.prog 23 #[.agg (entV Ae ne ce Be me de), .agg (entV A3 xn c3 B3 dn d3)] u.val fun e w' => e = .returned (.bool true) ∧ Below u.val.heap.size u.val w' := fun u => by
        have hx := keepS X7.out u.is
        have hy := keepS Y7.out u.is
        have hx2 := keepS (show Sl rpLnk w8 D A3 xn c3 xL from ⟨hrow, S7.out.2⟩) u.is
        have hy2 := keepS (show Sl rpU8 w8 D B3 dn d3 xd from ⟨hdat, S7.out.2⟩) u.is
        have h := esame_any hx.1 hx2.1 hx.2 hx2.2 hy.1 hy2.1 hy.2 hy2.2
        rw [dec_true rfl] at h
        exact h
      have HSMA := Lib.hid hsma
      have hiI : (0 : Int) ≤ (i : Int) := by omega
      have hiI2 : (i : Int) < (n : Int) := by omega
      clear hsma k1 k2 hrow hdat hbD g0 g1 hi hxi hat hpb hxn hdn
      refine wp_region_grow (by kernel_rfl) (by kernel_rfl) w8.heap.size ?_
      repeat (first | go_big_quiet_step ((first | (go_at_call 23; exact Gr.call _ (Nat.le_refl _) (HSMA.out _)))) | quiet_step ((first | (go_at_call 23; exact Gr.call _ (Nat.le_refl _) (HSMA.out _)))))
      refine wpQuiet_nil ?_
      rintro w9 ⟨⟨_, hb9⟩, rfl⟩
      go_wp2_with fail
      go_meet
      exact ⟨by first | rfl | simp, hb9⟩
  case rest =>
  obtain ⟨rfl, HB9⟩ := hcut
  obtain ⟨w9, hw9⟩ : ∃ w9, w9 = wc := ⟨_, rfl⟩
  subst hw9
  have K9 := Lib.hid (keepB (show Blk w8 gz 25 (batV ep b A n c) from K7.out) HB9.out)
  have S9 := Lib.hid (keepS S7.out HB9.out)
  have RO9 := Lib.hid (Row64.below RO.out HB9.out)
  have RT9 := Lib.hid (Row64.below RT.out HB9.out)
  have HB90 := Lib.hid (stepB HB70.out HB9.out)
  clear K7 S7 E7 X7 Y7 RO RT k1 k2 hd6 hd6b hwn hwe hon
  have hofs : ol = rofT b s 0 es := by rw [HOL.out]; exact of_same HN.out HNUM.out (by omega) HHB.out
  have HOF := Lib.hid hofs
  obtain ⟨hv, hhv⟩ : ∃ hv, dec (s ∈ st) = hv := ⟨_, rfl⟩
  have HHV := Lib.hid hhv
  have hgt : decide ((no : Int) > 0) = hv := by
    rw [← hhv, ← HNO.out, hofs]
    have h1 := of_some (s := s) HN.out HNUM.out (show n ≤ 1000000 by omega) HHB.out
    by_cases h : s ∈ st
    · rw [dec_true h]; have := h1.2 ((HME.out s).1 h).2; exact decide_eq_true (by omega)
    · rw [dec_false h]
      have : ¬ 0 < (rofT b s 0 es).length := fun h2 => h ((HME.out s).2 ⟨HNUM.out, h1.1 h2⟩)
      exact decide_eq_false (by omega)
  have hgt2 : decide (0 < no) = hv := by rw [← hgt]; by_cases h : 0 < no <;> simp [h] <;> omega
  have hvn : (hv != hv) = false := by cases hv <;> rfl
  clear hofs hhv
  have k0 := (show Blk w9 gz 25 (batV ep b A n c) from K9.out).cell 0
  have k1 := (show Blk w9 gz 25 (batV ep b A n c) from K9.out).cell 1
  have k2 := (show Blk w9 gz 25 (batV ep b A n c) from K9.out).cell 2
  have HRO := Lib.hid (rof_any (ep := ep) (b := b) (s := s) S9.out.1 S9.out.2 hn30 HM50.out HHB.out HSS.out)
  go_wp2_with fail
  refine HRO.out.mono ?_; rintro e w10 ⟨hb10, Ar, nr, cr, rfl, hr10⟩
  have HB10 := Lib.hid (stepB HB90.out hb10)
  have K10 := Lib.hid (keepB (show Blk w9 gz 25 (batV ep b A n c) from K9.out) hb10)
  have S10 := Lib.hid (keepS S9.out hb10)
  have RO10 := Lib.hid (Row64.below RO9.out hb10)
  have RT10 := Lib.hid (Row64.below RT9.out hb10)
  have hsm := same5_any RO10.out.rd hr10.rd (fun k hk => hk) (fun k hk => hk)
  rw [dec_true HOF.out] at hsm
  have HSM := Lib.hid hsm
  clear hb10 hr10 hsm k0 k1 k2 K9 S9 RO9 RT9 HB90
  go_wp2_with fail
  refine HSM.out.mono ?_; rintro e w11 ⟨rfl, hb11⟩
  have HB11 := Lib.hid (stepB HB10.out hb11)
  have K11 := Lib.hid (keepB (show Blk w10 gz 25 (batV ep b A n c) from K10.out) hb11)
  have S11 := Lib.hid (keepS S10.out hb11)
  have RT11 := Lib.hid (Row64.below RT10.out hb11)
  have hri := rises_ref RT11.out.rd (fun k hk => hk)
  rw [dec_true (up_rises HPW.out)] at hri
  have HRI := Lib.hid hri
  clear hb11 hri K10 S10 RO10 RT10
  go_wp2_with fail
  refine HRI.out.mono ?_; rintro e w12 ⟨rfl, hb12⟩
  have HB12 := Lib.hid (stepB HB11.out hb12)
  have K12 := Lib.hid (keepB (show Blk w11 gz 25 (batV ep b A n c) from K11.out) hb12)
  have S12 := Lib.hid (keepS S11.out hb12)
  have RT12 := Lib.hid (Row64.below RT11.out hb12)
  have hha := has_any s RT12.out.rd
  rw [HHV.out] at hha
  have HHA := Lib.hid hha
  clear hb12 hha K11 S11 RT11 HB11
  go_wp2_with fail
  refine HHA.out.mono ?_; rintro e w13 ⟨rfl, hw13⟩
  subst hw13
  go_upto_region 13 with (fail)
  clear hgt hgt2 hvn
  go_wp2_with fail
  go_loopw [13] (fun v13 wr => ∃ (i : Nat), i ≤ nt ∧ v13 = .int .i64 (i : Int) ∧ Hid (Blk wr gz 25 (batV ep b A n c)) ∧ Hid (Sl rpEnt wr D A n c es) ∧ Hid (Row64 wr w4.heap.size At nt ct st) ∧ Hid (Below w.heap.size w wr)) (fun v13 _ => nt - (intOf v13).toNat)
  case atStart => exact ⟨0, by omega, rfl, K12.out, S12.out, RT12.out, HB12.out⟩
  case round =>
    clear K12 S12 RT12 HB12
    obtain ⟨i, hi, rfl, hk1, hsl, hrt, hbel⟩ := hrel
    by_cases hin : i < nt
    case neg =>
      obtain rfl : i = nt := by omega
      have hd : decide ((i : Int) < (i : Int)) = false := by simp
      have HLV := Lib.hid (live26_any wr)
      go_wp2_with fail
      refine HLV.out.mono ?_; rintro e wz ⟨rfl, hbz⟩
      have HBZ := Lib.hid (stepB hbel.out hbz)
      clear hbz
      go_wp2_with fail
      go_ret
      exact ⟨rfl, HBZ.out⟩
    case pos =>
      have hd : decide ((i : Int) < (nt : Int)) = true := by simp; omega
      have hiI : (0 : Int) ≤ (i : Int) := by omega
      have hiI2 : (i : Int) < (nt : Int) := by omega
      obtain ⟨y, hy⟩ : ∃ y, st[i]? = some y := ⟨_, List.getElem?_eq_getElem (by have := HNT.out; omega)⟩
      have hy64 : y ≤ 18446744073709551615 := by have := hrt.out.2 y (List.mem_of_getElem? hy); omega
      have hpos : 0 < (rofT b y 0 es).length := (of_some (s := y) HN.out HNUM.out (show n ≤ 1000000 by omega) HHB.out).2 ((HME.out y).1 (List.mem_of_getElem? hy)).2
      have HPOS := Lib.hid hpos
      obtain ⟨bo, off, rfl, hbl, hcell⟩ : ∃ bo off, At = some ⟨bo, off, none⟩ ∧ bo < wr.heap.size ∧ wr.cell? ⟨bo, off + i, none⟩ = some (.int .u64 (y : Int)) := by
        obtain ⟨bo, off, x, cs, hA, hb, hx, hcc, hg⟩ := Rp.sl_at hrt.out.rd hin
        rw [hy] at hx
        injection hx with hx
        subst hx
        obtain ⟨rfl, _⟩ := hcc
        refine ⟨bo, off, hA, hb, ?_⟩
        have h := hg 0 _ rfl
        have e : off + i * rpU64.size + 0 = off + i := by show off + i * 1 + 0 = off + i; omega
        rw [e] at h
        exact h
      clear hy hpos
      go_upto_region 16 with (fail)
      go_cut [128] (fun v128 wx => v128 = .bool false ∧ Hid (Below wr.heap.size wr wx))
      case first =>
        have hbe : Below wr.heap.size wr wr.drew := (Below.refl _ wr).drew
        have S5 := Lib.hid (keepS hsl.out hbe)
        have HBE := Lib.hid hbe
        have HO := Lib.hid (rof_any (ep := ep) (b := b) (s := y) S5.out.1 S5.out.2 hn30 HM50.out HHB.out hy64)
        have hkk := (show Blk wr gz 25 (batV ep b A n c) from hk1.out)
        have HLAY : Hid (∀ u, Below wr.heap.size wr u → u.cell? ⟨gz, 0, none⟩ = some (.int .u64 (ep : Int)) ∧ u.cell? ⟨gz, 1, none⟩ = some (.int .u64 (b : Int)) ∧ u.cell? ⟨gz, 2, none⟩ = some (.slice A n c) ∧ u.cell? ⟨bo, off + i, none⟩ = some (.int .u64 (y : Int))) := fun u hu =>
          ⟨(keepB hkk hu).cell 0, (keepB hkk hu).cell 1, (keepB hkk hu).cell 2, (hu.cell (p := ⟨bo, off + i, none⟩) hbl).trans hcell⟩
        have t1 := HLAY.out _ (Below.refl _ wr)
        have t2 := HLAY.out _ hbe
        clear hbe hkk
        go_region_held3 (fun w' => w'.cell? ⟨gz, 0, none⟩ = some (.int .u64 (ep : Int)) ∧ w'.cell? ⟨gz, 1, none⟩ = some (.int .u64 (b : Int)) ∧ w'.cell? ⟨gz, 2, none⟩ = some (.slice A n c) ∧ w'.cell? ⟨bo, off + i, none⟩ = some (.int .u64 (y : Int)))
          (first | exact t1 | exact t2 | exact t3)
          ((go_at_call 25
            refine HO.out.mono ?_
            rintro e w6 ⟨hb6, A6, n6, c6, rfl, hr6⟩
            have HB6 := Lib.hid (stepB HBE.out hb6)
            have t3 := HLAY.out _ HB6.out
            have hn6 : ((n6 : Int) == 0) = false := by
              have h1 := hr6.len
              have h2 := HPOS.out
              rw [Bool.eq_false_iff]; intro h; have := beq_iff_eq.1 h; omega
            have hn6b : (n6 == 0) = false := by
              have h1 := hr6.len
              have h2 := HPOS.out
              rw [Bool.eq_false_iff]; intro h; have := beq_iff_eq.1 h; omega
            clear hb6 hr6))
        go_wp2_with fail
        go_meet
        exact ⟨by first | rfl | simp [hn6b] | simp [hn6], HB6⟩
      case rest =>
      obtain ⟨rfl, HB6⟩ := hcut
      obtain ⟨w6, hw6⟩ : ∃ w6, w6 = wc := ⟨_, rfl⟩
      subst hw6
      have K6 := Lib.hid (keepB (show Blk wr gz 25 (batV ep b A n c) from hk1.out) HB6.out)
      have S6 := Lib.hid (keepS hsl.out HB6.out)
      have RT6 := Lib.hid (Row64.below hrt.out HB6.out)
      have HB60 := Lib.hid (stepB hbel.out HB6.out)
      clear hk1 hsl hrt hbel hcell
      go_wp2_with fail
      go_roundw
      case rel => exact ⟨i + 1, by omega, by go_num, K6, S6, RT6, HB60⟩
      case measure => simp [intOf]; omega
end
end Go.Proofs.Ytcbmnfjbmkpfiaa
