/- How entries and batches stand in cells. -/
import Derived.Test.YtcbmnfjbmkpfiaaPkM
namespace Go.Proofs.Ytcbmnfjbmkpfiaa
open Go.ChangeShapes Go.WideShapes Go.ChangeAt Go.RowKit
set_option linter.unusedVariables false
abbrev rpEnt : Rp Ent := rpPair (rpSlice rpLnk) (rpSlice rpU8)
abbrev batV (e b : Nat) (A : Option Addr) (n c : Nat) : Array Value := #[.int .u64 (e : Int), .int .u64 (b : Int), .slice A n c]
abbrev entV (A : Option Addr) (n c : Nat) (B : Option Addr) (m d : Nat) : Array Value := #[.slice A n c, .slice B m d]
theorem ent_size : rpEnt.size = 2 := by kernel_rfl
theorem ent_at {w : World} {D : Dom} {A : Option Addr} {n c : Nat} {l : List Ent} (h : rpEnt.sl w D A n c l) {k : Nat} (hk : k < n) :
    ∃ b off x A' c' B d, A = some ⟨b, off, none⟩ ∧ D b ∧ l[k]? = some x ∧ w.cell? ⟨b, off + k * 2, none⟩ = some (.slice A' x.1.length c') ∧ w.cell? ⟨b, off + k * 2 + 1, none⟩ = some (.slice B x.2.length d) ∧
      rpLnk.sl w D A' x.1.length c' x.1 ∧ rpU8.sl w D B x.2.length d x.2 := by
  obtain ⟨b, off, x, cs, hA, hb, hx, hc, hg⟩ := Rp.sl_at h hk
  obtain ⟨cs1, cs2, rfl, h1, h2⟩ := hc
  obtain ⟨A', c', rfl, hs1⟩ := Rp.sl_form h1
  obtain ⟨B, d, rfl, hs2⟩ := Rp.sl_form h2
  rw [ent_size] at hg
  exact ⟨b, off, x, A', c', B, d, hA, hb, hx, by simpa using hg 0 _ rfl, hg 1 _ rfl, hs1, hs2⟩
theorem elemEnt : Elem Try.prog 23 45 2 48 := Elem.of (z := .agg #[.slice none 0 0, .slice none 0 0]) Try.underlying23 (by kernel_rfl) rfl (by decide)
theorem elem8 : Elem Try.prog 43 5 1 1 := Elem.of (z := .int .u8 0) Try.underlying43 (by kernel_rfl) rfl (by decide)
end Go.Proofs.Ytcbmnfjbmkpfiaa
