/- Whether two rows of bytes are the same; the law's example. -/
import Derived.Test.YtkhomkklamegmaaFixed
namespace Go.Proofs.Ytkhomkklamegmaa
open Go.ChangeShapes Go.WideShapes Go.ChangeAt Go.RowKit
set_option linter.unusedVariables false

theorem same_any (A A' : Option Addr) (n c n' c' : Nat) (l l' : List UInt8) (D D' : Dom) (w : World) (hl : rpU8.sl w D A n c l) (hl' : rpU8.sl w D' A' n' c' l') :
    Calls Try.prog 12 #[.slice A n c, .slice A' n' c'] w fun e w' => e = .returned (.bool (l == l')) ∧ w = w' := by
  have h1 := run_bytes_string (P := Try.prog) hl 25 9 5 Try.underlying25 Try.underlying5 Try.underlying9
  have h2 := run_bytes_string (P := Try.prog) hl' 25 9 5 Try.underlying25 Try.underlying5 Try.underlying9
  go_enter Try.func12, Try.ntmps12
  go_wp2
  go_ret
  exact ⟨rfl, rfl⟩

theorem built_at {g : Nat} {cs : Array Value} {w' : World} {o : List UInt8} (hw : ∀ i, w'.cell? ⟨g, i, none⟩ = cs[i]?) (hcs : ∀ (i : Nat) (x : UInt8), o[i]? = some x → cs[i]? = some (Value.int .u8 (x.toNat : Int))) (n : Nat) (hn : o.length = n) (hm : n ≤ 1000) : rpU8.sl w' (fun k => k = g) (some ⟨g, 0, none⟩) n n o :=
  bytes_of_cells hw hcs hn (Nat.le_refl _) (by unfold maxLen; omega)
theorem two_at (w : World) (a b : UInt8) (e : TypeId) : rpU8.sl (w.alloc (.cells #[.int .u8 (a.toNat : Int), .int .u8 (b.toNat : Int)] e)) (fun k => k = w.heap.size) (some ⟨w.heap.size, 0, none⟩) 2 2 [a, b] :=
  built_at (fun i => (Blk.new w _ _).cell i) (fun i x hx => by
    match i, hx with
    | 0, hx | 1, hx => cases hx; rfl) 2 rfl (by decide)
theorem four_at (w : World) (a b c d : UInt8) (e : TypeId) : rpU8.sl (w.alloc (.cells #[.int .u8 (a.toNat : Int), .int .u8 (b.toNat : Int), .int .u8 (c.toNat : Int), .int .u8 (d.toNat : Int)] e)) (fun k => k = w.heap.size) (some ⟨w.heap.size, 0, none⟩) 4 4 [a, b, c, d] :=
  built_at (fun i => (Blk.new w _ _).cell i) (fun i x hx => by
    match i, hx with
    | 0, hx | 1, hx | 2, hx | 3, hx => cases hx; rfl) 4 rfl (by decide)

end Go.Proofs.Ytkhomkklamegmaa
