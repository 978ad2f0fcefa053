/- LocatePos, its arguments as they come. -/
import Derived.Test.YtmdgmnaaopineaaPosW
namespace Go.Proofs.Ytmdgmnaaopineaa
open Go.ChangeShapes Go.WideShapes Go.ChangeAt Go.RowKit
set_option linter.unusedVariables false
abbrev rpPrj : Rp (Nat × List Stp) := rpPair rpU64 (rpSlice rpStp)
/-- A projection's cells, opened. -/
theorem prj_open {w : World} {D : Dom} {x : Nat × List Stp} {cs : List Value} (h : rpPrj.ok w D x cs) : ∃ A c, cs = [.int .u64 (x.1 : Int), .slice A x.2.length c] ∧ rpStp.sl w D A x.2.length c x.2 ∧ x.1 ≤ 18446744073709551615 := by
  obtain ⟨cs1, cs2, rfl, ⟨rfl, q1⟩, h4⟩ := h
  obtain ⟨A, c, rfl, hs⟩ := Rp.sl_form h4
  exact ⟨A, c, rfl, hs, by omega⟩
theorem two_open {w : World} {D : Dom} {x : Int × Int} {cs : List Value} (h : (rpPair rpInt rpInt).ok w D x cs) : cs = [.int .i64 x.1, .int .i64 x.2] ∧ -9223372036854775808 ≤ x.1 ∧ x.1 ≤ 9223372036854775807 ∧ -9223372036854775808 ≤ x.2 ∧ x.2 ≤ 9223372036854775807 := by
  obtain ⟨cs1, cs2, rfl, ⟨rfl, q1, q2⟩, ⟨rfl, q3, q4⟩⟩ := h
  exact ⟨rfl, by omega, by omega, by omega, by omega⟩
theorem lpos_any {D : Dom} {A : Option Addr} {c e : Nat} {l : List Stp} {w : World} (r set : Int) (loc : Nat) (hs : rpStp.sl w D A l.length c l) (hD : ∀ k, D k → k < w.heap.size) (he : e ≤ 18446744073709551615) (hl : loc ≤ 18446744073709551615) (r0 : -9223372036854775808 ≤ r) (r1 : r ≤ 9223372036854775807) (s0 : -9223372036854775808 ≤ set) (s1 : set ≤ 9223372036854775807) :
    Calls Try.prog 5 #[.agg (prjV e A l.length c), .agg #[.int .i64 r, .int .i64 set], .int .u64 (loc : Int)] w fun en w' => en = .returned (.bool true) ∧ Below w.heap.size w w' := by
  by_cases hok : POk (e, l)
  case neg => exact lpos_no r set loc hok hs hD he hl r0 r1 s0 s1
  by_cases h1 : r < 0
  · exact lpos_neg r set loc hok h1 hs hD he hl r0 r1 s0 s1
  by_cases h2 : (l.length : Int) ≤ r
  · exact lpos_far r set loc hok (by omega) h2 hs hD he hl r0 r1 s0 s1
  have hq : r.toNat < l.length := by omega
  have hrq : r = (r.toNat : Int) := by omega
  have hsk : l[r.toNat]? = some l[r.toNat] := List.getElem?_eq_getElem hq
  have huq : ∀ s : Stp, l[r.toNat]? = some s → s = l[r.toNat] := fun s hs => by rw [hsk] at hs; exact (Option.some.inj hs).symm
  by_cases h3 : loc < share l[r.toNat] set
  · exact lpos_in r set loc hok ⟨r.toNat, l[r.toNat], hrq, hsk, h3⟩ hs hD he hl r0 r1 s0 s1
  by_cases h4 : set < 0
  · exact lpos_sneg r set loc hok ⟨r.toNat, hq, hrq⟩ h4 hs hD he hl r0 r1 s0 s1
  by_cases h5 : (l[r.toNat].2.2.length : Int) ≤ set
  · exact lpos_sfar r set loc hok ⟨r.toNat, hq, hrq⟩ (fun s hs => by rw [huq s hs]; exact ⟨by omega, h5⟩) hs hD he hl r0 r1 s0 s1
  by_cases h6 : loc < (l[r.toNat].2.1 - l[r.toNat].1) / l[r.toNat].2.2.length + 1
  · exact lpos_small r set loc hok ⟨r.toNat, hq, hrq⟩ (fun s hs => by rw [huq s hs]; exact ⟨by omega, by omega, by omega⟩) (fun s hs => by rw [huq s hs]; exact h6) hs hD he hl r0 r1 s0 s1
  · exact lpos_great r set loc hok ⟨r.toNat, hq, hrq⟩ (fun s hs => by rw [huq s hs]; exact ⟨by omega, by omega, by omega⟩) (fun s hs => by rw [huq s hs]; exact h6) hs hD he hl r0 r1 s0 s1
theorem locatePos_st (cs : Array Value) (x : Nat × List Stp) (ds : Array Value) (y : Int × Int) (p : Int) (w : World) (hx : rpPrj.ok w (lt w.heap.size) x cs.toList) (hy : (rpPair rpInt rpInt).ok w (lt w.heap.size) y ds.toList) (p0 : 0 ≤ p) (p1 : p ≤ 18446744073709551615) :
    Calls Try.prog 5 #[.agg cs, .agg ds, .int .u64 p] w fun e w' => e = .returned (.bool true) ∧ Below w.heap.size w w' := by
  obtain ⟨A, c, hcs, hs, he⟩ := prj_open hx
  obtain ⟨hds, a0, a1, b0, b1⟩ := two_open hy
  obtain ⟨q, rfl⟩ : ∃ q : Nat, p = q := ⟨p.toNat, by omega⟩
  rw [agg_of hcs, agg_of hds]
  exact lpos_any y.1 y.2 q hs (fun k hk => hk) he (by omega) a0 a1 b0 b1
end Go.Proofs.Ytmdgmnaaopineaa
