/- How links and messages stand in cells. -/
import Derived.Test.YtnihaaifkogpbaaTkM
import Derived.Test.YtnihaaifkogpbaaLkR
import Derived.Test.YtnihaaifkogpbaaKeep
import Derived.Test.YtnihaaifkogpbaaOpenF
namespace Go.Proofs.Ytnihaaifkogpbaa
open Go.ChangeShapes Go.WideShapes Go.ChangeAt Go.RowKit
set_option linter.unusedVariables false
/-- Where the lists of a message lie. -/
structure Hd where
  A1 : Option Addr
  n1 : Nat
  c1 : Nat
  A2 : Option Addr
  n2 : Nat
  c2 : Nat
  A3 : Option Addr
  n3 : Nat
  c3 : Nat
  A4 : Option Addr
  n4 : Nat
  c4 : Nat
abbrev msV (m : Ms) (h : Hd) : Array Value := #[.int .i64 m.kd, .int .u64 (m.ep : Int), .int .u64 (m.sq : Int), .int .u64 (m.ps : Int), .int .i64 m.ct, .int .i64 m.st, .slice h.A1 h.n1 h.c1, .slice h.A2 h.n2 h.c2, .slice h.A3 h.n3 h.c3, .int .u64 (m.se.1 : Int), .int .u64 (m.se.2.1 : Int), .int .u64 (m.se.2.2 : Int), .int .u64 (m.pr.1 : Int), .slice h.A4 h.n4 h.c4]
structure MsIn (w : World) (D : Dom) (m : Ms) (h : Hd) : Prop where
  ss : rpU64.sl w D h.A1 h.n1 h.c1 m.ss
  ls : rpLnk.sl w D h.A2 h.n2 h.c2 m.ls
  dt : rpU8.sl w D h.A3 h.n3 h.c3 m.dt
  pr : rpStp.sl w D h.A4 h.n4 h.c4 m.pr.2
  dom : ∀ k, D k → k < w.heap.size
  kd0 : -9223372036854775808 ≤ m.kd
  kd1 : m.kd ≤ 9223372036854775807
  ct0 : -9223372036854775808 ≤ m.ct
  ct1 : m.ct ≤ 9223372036854775807
  st0 : -9223372036854775808 ≤ m.st
  st1 : m.st ≤ 9223372036854775807
  ep1 : m.ep ≤ 18446744073709551615
  sq1 : m.sq ≤ 18446744073709551615
  ps1 : m.ps ≤ 18446744073709551615
  s11 : m.se.1 ≤ 18446744073709551615
  s21 : m.se.2.1 ≤ 18446744073709551615
  s31 : m.se.2.2 ≤ 18446744073709551615
  pe1 : m.pr.1 ≤ 18446744073709551615
theorem MsIn.below {w w' : World} {D : Dom} {m : Ms} {h : Hd} (hm : MsIn w D m h) (hb : Below w.heap.size w w') : MsIn w' D m h :=
  ⟨Rp.sl_below hm.ss hb hm.dom, Rp.sl_below hm.ls hb hm.dom, Rp.sl_below hm.dt hb hm.dom, Rp.sl_below hm.pr hb hm.dom, fun k hk => Nat.lt_of_lt_of_le (hm.dom k hk) hb.size, hm.kd0, hm.kd1, hm.ct0, hm.ct1, hm.st0, hm.st1, hm.ep1, hm.sq1, hm.ps1, hm.s11, hm.s21, hm.s31, hm.pe1⟩
abbrev rpMsT := rpPair rpInt (rpPair rpU64 (rpPair rpU64 (rpPair rpU64 (rpPair rpInt (rpPair rpInt (rpPair (rpSlice rpU64) (rpPair (rpSlice rpLnk) (rpPair (rpSlice rpU8) (rpPair (rpPair rpU64 (rpPair rpU64 rpU64)) (rpPair rpU64 (rpSlice rpStp)))))))))))
def rpMs : Rp Ms := rpVia (fun m : Ms => (m.kd, m.ep, m.sq, m.ps, m.ct, m.st, m.ss, m.ls, m.dt, m.se, m.pr)) rpMsT
theorem ms_size : rpMs.size = 14 := by kernel_rfl
theorem ms_open {w : World} {D : Dom} {m : Ms} {cs : List Value} (hD : ∀ k, D k → k < w.heap.size) (h : rpMs.ok w D m cs) : ∃ hd : Hd, cs = (msV m hd).toList ∧ MsIn w D m hd := by
  obtain ⟨_, _, rfl, ⟨rfl, a0, a1⟩, _, _, rfl, ⟨rfl, b1⟩, _, _, rfl, ⟨rfl, c1⟩, _, _, rfl, ⟨rfl, d1⟩, _, _, rfl, ⟨rfl, e0, e1⟩, _, _, rfl, ⟨rfl, f0, f1⟩, _, _, rfl, h1, _, _, rfl, h2, _, _, rfl, h3, _, _, rfl, ⟨_, _, rfl, ⟨rfl, g1⟩, _, _, rfl, ⟨rfl, g2⟩, ⟨rfl, g3⟩⟩, _, _, rfl, ⟨rfl, g4⟩, h4⟩ := h
  obtain ⟨A1, k1, rfl, s1⟩ := Rp.sl_form h1
  obtain ⟨A2, k2, rfl, s2⟩ := Rp.sl_form h2
  obtain ⟨A3, k3, rfl, s3⟩ := Rp.sl_form h3
  obtain ⟨A4, k4, rfl, s4⟩ := Rp.sl_form h4
  have i64 : ∀ x : Int, x < 9223372036854775808 → x ≤ 9223372036854775807 := fun x h => by omega
  have u64 : ∀ x : Nat, x < 18446744073709551616 → x ≤ 18446744073709551615 := fun x h => by omega
  exact ⟨⟨A1, _, k1, A2, _, k2, A3, _, k3, A4, _, k4⟩, rfl, ⟨s1, s2, s3, s4, hD, a0, i64 _ a1, e0, i64 _ e1, f0, i64 _ f1, u64 _ b1, u64 _ c1, u64 _ d1, u64 _ g1, u64 _ g2, u64 _ g3, u64 _ g4⟩⟩
theorem ms_at {w : World} {D : Dom} {A : Option Addr} {n c : Nat} {l : List Ms} (h : rpMs.sl w D A n c l) (hD : ∀ k, D k → k < w.heap.size) {k : Nat} (hk : k < n) :
    ∃ b off m hd, A = some ⟨b, off, none⟩ ∧ D b ∧ l[k]? = some m ∧ MsIn w D m hd ∧ ∀ (j : Nat) u, (msV m hd).toList[j]? = some u → w.cell? ⟨b, off + k * 14 + j, none⟩ = some u := by
  obtain ⟨b, off, x, cs, hA, hb, hx, hc, hg⟩ := Rp.sl_at h hk
  obtain ⟨hd, rfl, hm⟩ := ms_open hD hc
  rw [ms_size] at hg
  exact ⟨b, off, x, hd, hA, hb, hx, hm, hg⟩
end Go.Proofs.Ytnihaaifkogpbaa
