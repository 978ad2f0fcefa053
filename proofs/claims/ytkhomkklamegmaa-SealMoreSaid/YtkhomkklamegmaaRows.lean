/-
  No cell of these rows narrows 'for every input' (looked for: loops, veiled, ifaces, maps, wideKeys, modest, calm, conditions, laid).
  DERIVED. THE GIVEN ROWS OF THIS SEAT. 4 by the template 'for every input the law returns true; each argument reads behind the call as it read before'; 0 by the template 'total and deterministic' (their statements: YtkhomkklamegmaaTotals.lean).
  GIVEN WITH THE SEED: the statements are not yours to turn. If you find one false, say at which input.
  Laid BY PROGRAM, IN A SANDBOX (cutbox-rows.mjs): the forced cells as the released guide's own fill.sh prints them over the translation 1f0881fb31ae552a… (all of the seat's roots in one cut). By AI agents, Wed Nov 11 2026. No macro, syntax, notation, axiom, sorry.
-/
import Derived.Test.YtkhomkklamegmaaChecked
import GoSem.Claim
import GoSem.ClaimJoined
import GoSem.ClaimMapViews
import Derived.JoinedTies
import Derived.KernelRfl
namespace Go.Proofs.Ytkhomkklamegmaa
/- THE CELL 'sum', in the pinned program and in every row, IS THE sha256 OF THE DUMP (.gsa) THAT YtkhomkklamegmaaProg.lean LOADS. Nothing in Lean hashes anything: it is a label: what it is worth is what the hold of that sum in a sandbox is worth. -/
noncomputable def Try.pinned : Pinned := { name := "ytkhomkklamegmaa", sum := "1f0881fb31ae552a4b1c1af2f473fff18257cfd5d35d84d3da10f39e9bc3de02", checked := Try.checked }
namespace Rows
def none {H : Type} : Left H := { results := [], args := [] }

/-- 'tholepinlaw18.SealWrites': WHATEVER THE INPUT: true; the input reads as it did. -/
def sealWritesSpec : ChangeSpec := { name := "sealWrites", fn := fun _ => fun
  | [d1, d2] => { results := [.lit (.bool true)], args := [d1, d2] }
  | _ => none }
def sealWritesRow : OpenClaim := { program := "ytkhomkklamegmaa", sum := "1f0881fb31ae552a4b1c1af2f473fff18257cfd5d35d84d3da10f39e9bc3de02", func := "tholepin/tholepinlaw18.SealWrites", spec := "sealWrites", unfollowed := true, recurses := true, apart := false }
def SealWritesSaid : Prop := sealWritesRow.holds Try.pinned (OpenSpec.ofChange sealWritesSpec)

/-- ITS FALSE NEIGHBOUR: 'it returns false'. Refute it at one input. -/
def sealWritesWrong : ChangeSpec := { name := "sealWrites", fn := fun _ => fun
  | [d1, d2] => { results := [.lit (.bool false)], args := [d1, d2] }
  | _ => none }
def SealWritesWrongFalsely : Prop := sealWritesRow.holds Try.pinned (OpenSpec.ofChange sealWritesWrong)

/-- 'tholepinlaw18.SealReads': WHATEVER THE INPUT: true; the input reads as it did. -/
def sealReadsSpec : ChangeSpec := { name := "sealReads", fn := fun _ => fun
  | [d] => { results := [.lit (.bool true)], args := [d] }
  | _ => none }
def sealReadsRow : OpenClaim := { program := "ytkhomkklamegmaa", sum := "1f0881fb31ae552a4b1c1af2f473fff18257cfd5d35d84d3da10f39e9bc3de02", func := "tholepin/tholepinlaw18.SealReads", spec := "sealReads", unfollowed := true, recurses := true, apart := false }
def SealReadsSaid : Prop := sealReadsRow.holds Try.pinned (OpenSpec.ofChange sealReadsSpec)

/-- ITS FALSE NEIGHBOUR: 'it returns false'. Refute it at one input. -/
def sealReadsWrong : ChangeSpec := { name := "sealReads", fn := fun _ => fun
  | [d] => { results := [.lit (.bool false)], args := [d] }
  | _ => none }
def SealReadsWrongFalsely : Prop := sealReadsRow.holds Try.pinned (OpenSpec.ofChange sealReadsWrong)

/-- 'tholepinlaw18.SealTails': WHATEVER THE INPUT: true; the input reads as it did. -/
def sealTailsSpec : ChangeSpec := { name := "sealTails", fn := fun _ => fun
  | [d1, d2, d3] => { results := [.lit (.bool true)], args := [d1, d2, d3] }
  | _ => none }
def sealTailsRow : OpenClaim := { program := "ytkhomkklamegmaa", sum := "1f0881fb31ae552a4b1c1af2f473fff18257cfd5d35d84d3da10f39e9bc3de02", func := "tholepin/tholepinlaw18.SealTails", spec := "sealTails", unfollowed := true, recurses := true, apart := false }
def SealTailsSaid : Prop := sealTailsRow.holds Try.pinned (OpenSpec.ofChange sealTailsSpec)

/-- ITS FALSE NEIGHBOUR: 'it returns false'. Refute it at one input. -/
def sealTailsWrong : ChangeSpec := { name := "sealTails", fn := fun _ => fun
  | [d1, d2, d3] => { results := [.lit (.bool false)], args := [d1, d2, d3] }
  | _ => none }
def SealTailsWrongFalsely : Prop := sealTailsRow.holds Try.pinned (OpenSpec.ofChange sealTailsWrong)

/-- 'tholepinlaw18.SealMore': WHATEVER THE INPUT: true; the input reads as it did. -/
def sealMoreSpec : ChangeSpec := { name := "sealMore", fn := fun _ => fun
  | [d1, d2, d3] => { results := [.lit (.bool true)], args := [d1, d2, d3] }
  | _ => none }
def sealMoreRow : OpenClaim := { program := "ytkhomkklamegmaa", sum := "1f0881fb31ae552a4b1c1af2f473fff18257cfd5d35d84d3da10f39e9bc3de02", func := "tholepin/tholepinlaw18.SealMore", spec := "sealMore", unfollowed := true, recurses := true, apart := false }
def SealMoreSaid : Prop := sealMoreRow.holds Try.pinned (OpenSpec.ofChange sealMoreSpec)

/-- ITS FALSE NEIGHBOUR: 'it returns false'. Refute it at one input. -/
def sealMoreWrong : ChangeSpec := { name := "sealMore", fn := fun _ => fun
  | [d1, d2, d3] => { results := [.lit (.bool false)], args := [d1, d2, d3] }
  | _ => none }
def SealMoreWrongFalsely : Prop := sealMoreRow.holds Try.pinned (OpenSpec.ofChange sealMoreWrong)

/- THE SECOND FORM. 'bulk': how many values and letters a reading holds, each counted each time it is reached (what is shared counts as often as it is met; a slice's spare places count too). A statement '..UptoSaid' is the law's where the arguments, and the package variables that the reading takes, are together of bulk at most 1048576: NARROWER than '..Said'. Prove '..Said' where nothing that the law and all that it calls make is longer than what came in: it says more and counts as full. Else prove '..UptoSaid'. A law counts once. -/
mutual
def uptoBulk {H : Type} : DataW H → Nat
  | .lit (.string bytes) => bytes.length + 1
  | .lit _ => 1
  | .nil => 1
  | .ptr d => uptoBulk d + 1
  | .slice elems spare => uptoBulkAll elems + uptoBulkAll spare + 1
  | .agg parts => uptoBulkAll parts + 1
  | .iface _ d => uptoBulk d + 1
  | .map entries => uptoBulkEntries entries + 1
  | .held _ => 1
def uptoBulkAll {H : Type} : List (DataW H) → Nat
  | [] => 0
  | d :: r => uptoBulk d + uptoBulkAll r
def uptoBulkEntries {H : Type} : List (Lit × DataW H) → Nat
  | [] => 0
  | x :: r => uptoBulkEntry x + uptoBulkEntries r
def uptoBulkEntry {H : Type} : Lit × DataW H → Nat
  | (.string bytes, d) => bytes.length + uptoBulk d + 1
  | (_, d) => uptoBulk d + 1
 end
def uptoSmall : (H : Type) → List (DataW H) → Bool := fun _ ds => decide (uptoBulkAll ds ≤ 1048576)
def OpenSpec.upto (s : _root_.Go.ChangeSpec) : _root_.Go.OpenSpec := { _root_.Go.OpenSpec.ofChange s with cond := some uptoSmall }

/-- 'tholepinlaw18.SealWrites', WHERE WHAT IT READS IS OF BULK AT MOST 1048576: true; the input reads as it did. -/
def sealWritesUptoRow : OpenClaim := { program := "ytkhomkklamegmaa", sum := "1f0881fb31ae552a4b1c1af2f473fff18257cfd5d35d84d3da10f39e9bc3de02", func := "tholepin/tholepinlaw18.SealWrites", spec := "sealWrites", unfollowed := true, recurses := true, apart := false, narrowed := true }
def SealWritesUptoSaid : Prop := sealWritesUptoRow.holds Try.pinned (OpenSpec.upto sealWritesSpec)

/-- 'tholepinlaw18.SealReads', WHERE WHAT IT READS IS OF BULK AT MOST 1048576: true; the input reads as it did. -/
def sealReadsUptoRow : OpenClaim := { program := "ytkhomkklamegmaa", sum := "1f0881fb31ae552a4b1c1af2f473fff18257cfd5d35d84d3da10f39e9bc3de02", func := "tholepin/tholepinlaw18.SealReads", spec := "sealReads", unfollowed := true, recurses := true, apart := false, narrowed := true }
def SealReadsUptoSaid : Prop := sealReadsUptoRow.holds Try.pinned (OpenSpec.upto sealReadsSpec)

/-- 'tholepinlaw18.SealTails', WHERE WHAT IT READS IS OF BULK AT MOST 1048576: true; the input reads as it did. -/
def sealTailsUptoRow : OpenClaim := { program := "ytkhomkklamegmaa", sum := "1f0881fb31ae552a4b1c1af2f473fff18257cfd5d35d84d3da10f39e9bc3de02", func := "tholepin/tholepinlaw18.SealTails", spec := "sealTails", unfollowed := true, recurses := true, apart := false, narrowed := true }
def SealTailsUptoSaid : Prop := sealTailsUptoRow.holds Try.pinned (OpenSpec.upto sealTailsSpec)

/-- 'tholepinlaw18.SealMore', WHERE WHAT IT READS IS OF BULK AT MOST 1048576: true; the input reads as it did. -/
def sealMoreUptoRow : OpenClaim := { program := "ytkhomkklamegmaa", sum := "1f0881fb31ae552a4b1c1af2f473fff18257cfd5d35d84d3da10f39e9bc3de02", func := "tholepin/tholepinlaw18.SealMore", spec := "sealMore", unfollowed := true, recurses := true, apart := false, narrowed := true }
def SealMoreUptoSaid : Prop := sealMoreUptoRow.holds Try.pinned (OpenSpec.upto sealMoreSpec)

end Rows
end Go.Proofs.Ytkhomkklamegmaa
