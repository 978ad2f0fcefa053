/-
  No cell of these rows narrows 'for every input' (looked for: loops, veiled, ifaces, maps, wideKeys, modest, calm, conditions, laid).
  DERIVED. THE GIVEN ROWS OF THIS SEAT. 4 by the template 'for every input the law returns true; each argument reads behind the call as it read before'; 0 by the template 'total and deterministic' (their statements: YtcbmnfjbmkpfiaaTotals.lean).
  GIVEN WITH THE SEED: the statements are not yours to turn. If you find one false, say at which input.
  Laid BY PROGRAM, IN A SANDBOX (cutbox-rows.mjs): the forced cells as the released guide's own fill.sh prints them over the translation 0fb2be4180c2271c… (all of the seat's roots in one cut). By AI agents, Wed Nov 11 2026. No macro, syntax, notation, axiom, sorry.
-/
import Derived.Test.YtcbmnfjbmkpfiaaChecked
import GoSem.Claim
import GoSem.ClaimJoined
import GoSem.ClaimMapViews
import Derived.JoinedTies
import Derived.KernelRfl
namespace Go.Proofs.Ytcbmnfjbmkpfiaa
/- THE CELL 'sum', in the pinned program and in every row, IS THE sha256 OF THE DUMP (.gsa) THAT YtcbmnfjbmkpfiaaProg.lean LOADS. Nothing in Lean hashes anything: it is a label: what it is worth is what the hold of that sum in a sandbox is worth. -/
noncomputable def Try.pinned : Pinned := { name := "ytcbmnfjbmkpfiaa", sum := "0fb2be4180c2271c6a055eb51a4998d5535f12ed8033c2eefb9bfa2d36ea7229", checked := Try.checked }
namespace Rows
def none {H : Type} : Left H := { results := [], args := [] }

/-- 'tholepinlaw26.PeekJoins': WHATEVER THE INPUT: true; the input reads as it did. -/
def peekJoinsSpec : ChangeSpec := { name := "peekJoins", fn := fun _ => fun
  | [d1, d2, d3] => { results := [.lit (.bool true)], args := [d1, d2, d3] }
  | _ => none }
def peekJoinsRow : OpenClaim := { program := "ytcbmnfjbmkpfiaa", sum := "0fb2be4180c2271c6a055eb51a4998d5535f12ed8033c2eefb9bfa2d36ea7229", func := "tholepin/tholepinlaw26.PeekJoins", spec := "peekJoins", inPlace := ["slices.overlaps[tholepin/api.Link]"], unfollowed := true, recurses := true, apart := false }
def PeekJoinsSaid : Prop := peekJoinsRow.holds Try.pinned (OpenSpec.ofChange peekJoinsSpec)

/-- ITS FALSE NEIGHBOUR: 'it returns false'. Refute it at one input. -/
def peekJoinsWrong : ChangeSpec := { name := "peekJoins", fn := fun _ => fun
  | [d1, d2, d3] => { results := [.lit (.bool false)], args := [d1, d2, d3] }
  | _ => none }
def PeekJoinsWrongFalsely : Prop := peekJoinsRow.holds Try.pinned (OpenSpec.ofChange peekJoinsWrong)

/-- 'tholepinlaw26.PeekThreads': WHATEVER THE INPUT: true; the input reads as it did. -/
def peekThreadsSpec : ChangeSpec := { name := "peekThreads", fn := fun _ => fun
  | [d1, d2] => { results := [.lit (.bool true)], args := [d1, d2] }
  | _ => none }
def peekThreadsRow : OpenClaim := { program := "ytcbmnfjbmkpfiaa", sum := "0fb2be4180c2271c6a055eb51a4998d5535f12ed8033c2eefb9bfa2d36ea7229", func := "tholepin/tholepinlaw26.PeekThreads", spec := "peekThreads", inPlace := ["slices.overlaps[tholepin/api.Link]"], unfollowed := true, recurses := true, apart := false }
def PeekThreadsSaid : Prop := peekThreadsRow.holds Try.pinned (OpenSpec.ofChange peekThreadsSpec)

/-- ITS FALSE NEIGHBOUR: 'it returns false'. Refute it at one input. -/
def peekThreadsWrong : ChangeSpec := { name := "peekThreads", fn := fun _ => fun
  | [d1, d2] => { results := [.lit (.bool false)], args := [d1, d2] }
  | _ => none }
def PeekThreadsWrongFalsely : Prop := peekThreadsRow.holds Try.pinned (OpenSpec.ofChange peekThreadsWrong)

/-- 'tholepinlaw26.PeekCuts': WHATEVER THE INPUT: true; the input reads as it did. -/
def peekCutsSpec : ChangeSpec := { name := "peekCuts", fn := fun _ => fun
  | [d1, d2, d3] => { results := [.lit (.bool true)], args := [d1, d2, d3] }
  | _ => none }
def peekCutsRow : OpenClaim := { program := "ytcbmnfjbmkpfiaa", sum := "0fb2be4180c2271c6a055eb51a4998d5535f12ed8033c2eefb9bfa2d36ea7229", func := "tholepin/tholepinlaw26.PeekCuts", spec := "peekCuts", inPlace := ["slices.overlaps[tholepin/api.Link]"], unfollowed := true, recurses := true, apart := false }
def PeekCutsSaid : Prop := peekCutsRow.holds Try.pinned (OpenSpec.ofChange peekCutsSpec)

/-- ITS FALSE NEIGHBOUR: 'it returns false'. Refute it at one input. -/
def peekCutsWrong : ChangeSpec := { name := "peekCuts", fn := fun _ => fun
  | [d1, d2, d3] => { results := [.lit (.bool false)], args := [d1, d2, d3] }
  | _ => none }
def PeekCutsWrongFalsely : Prop := peekCutsRow.holds Try.pinned (OpenSpec.ofChange peekCutsWrong)

/-- 'tholepinlaw26.PeekFinds': WHATEVER THE INPUT: true; the input reads as it did. -/
def peekFindsSpec : ChangeSpec := { name := "peekFinds", fn := fun _ => fun
  | [d1, d2, d3] => { results := [.lit (.bool true)], args := [d1, d2, d3] }
  | _ => none }
def peekFindsRow : OpenClaim := { program := "ytcbmnfjbmkpfiaa", sum := "0fb2be4180c2271c6a055eb51a4998d5535f12ed8033c2eefb9bfa2d36ea7229", func := "tholepin/tholepinlaw26.PeekFinds", spec := "peekFinds", inPlace := ["slices.overlaps[tholepin/api.Link]"], unfollowed := true, recurses := true, apart := false }
def PeekFindsSaid : Prop := peekFindsRow.holds Try.pinned (OpenSpec.ofChange peekFindsSpec)

/-- ITS FALSE NEIGHBOUR: 'it returns false'. Refute it at one input. -/
def peekFindsWrong : ChangeSpec := { name := "peekFinds", fn := fun _ => fun
  | [d1, d2, d3] => { results := [.lit (.bool false)], args := [d1, d2, d3] }
  | _ => none }
def PeekFindsWrongFalsely : Prop := peekFindsRow.holds Try.pinned (OpenSpec.ofChange peekFindsWrong)

/- THE SECOND FORM. 'bulk': how many values and letters a reading holds, each counted each time it is reached (what is shared counts as often as it is met; a slice's spare places count too). A statement '..UptoSaid' is the law's where the arguments, and the package variables that the reading takes, are together of bulk at most 1048576: NARROWER than '..Said'. Prove '..Said' where nothing that the law and all that it calls make is longer than what came in: it says more and counts as full. Else prove '..UptoSaid'. A law counts once. -/
mutual
def uptoBulk {H : Type} : DataW H → Nat
  | .lit (.string bytes) => bytes.length + 1
  | .lit _ => 1
  | .nil => 1
  | .ptr d => uptoBulk d + 1
  | .slice elems spare => uptoBulkAll elems + uptoBulkAll spare + 1
  | .agg parts => uptoBulkAll parts + 1
  | .iface _ d => uptoBulk d + 1
  | .map entries => uptoBulkEntries entries + 1
  | .held _ => 1
def uptoBulkAll {H : Type} : List (DataW H) → Nat
  | [] => 0
  | d :: r => uptoBulk d + uptoBulkAll r
def uptoBulkEntries {H : Type} : List (Lit × DataW H) → Nat
  | [] => 0
  | x :: r => uptoBulkEntry x + uptoBulkEntries r
def uptoBulkEntry {H : Type} : Lit × DataW H → Nat
  | (.string bytes, d) => bytes.length + uptoBulk d + 1
  | (_, d) => uptoBulk d + 1
 end
def uptoSmall : (H : Type) → List (DataW H) → Bool := fun _ ds => decide (uptoBulkAll ds ≤ 1048576)
def OpenSpec.upto (s : _root_.Go.ChangeSpec) : _root_.Go.OpenSpec := { _root_.Go.OpenSpec.ofChange s with cond := some uptoSmall }

/-- 'tholepinlaw26.PeekJoins', WHERE WHAT IT READS IS OF BULK AT MOST 1048576: true; the input reads as it did. -/
def peekJoinsUptoRow : OpenClaim := { program := "ytcbmnfjbmkpfiaa", sum := "0fb2be4180c2271c6a055eb51a4998d5535f12ed8033c2eefb9bfa2d36ea7229", func := "tholepin/tholepinlaw26.PeekJoins", spec := "peekJoins", inPlace := ["slices.overlaps[tholepin/api.Link]"], unfollowed := true, recurses := true, apart := false, narrowed := true }
def PeekJoinsUptoSaid : Prop := peekJoinsUptoRow.holds Try.pinned (OpenSpec.upto peekJoinsSpec)

/-- 'tholepinlaw26.PeekThreads', WHERE WHAT IT READS IS OF BULK AT MOST 1048576: true; the input reads as it did. -/
def peekThreadsUptoRow : OpenClaim := { program := "ytcbmnfjbmkpfiaa", sum := "0fb2be4180c2271c6a055eb51a4998d5535f12ed8033c2eefb9bfa2d36ea7229", func := "tholepin/tholepinlaw26.PeekThreads", spec := "peekThreads", inPlace := ["slices.overlaps[tholepin/api.Link]"], unfollowed := true, recurses := true, apart := false, narrowed := true }
def PeekThreadsUptoSaid : Prop := peekThreadsUptoRow.holds Try.pinned (OpenSpec.upto peekThreadsSpec)

/-- 'tholepinlaw26.PeekCuts', WHERE WHAT IT READS IS OF BULK AT MOST 1048576: true; the input reads as it did. -/
def peekCutsUptoRow : OpenClaim := { program := "ytcbmnfjbmkpfiaa", sum := "0fb2be4180c2271c6a055eb51a4998d5535f12ed8033c2eefb9bfa2d36ea7229", func := "tholepin/tholepinlaw26.PeekCuts", spec := "peekCuts", inPlace := ["slices.overlaps[tholepin/api.Link]"], unfollowed := true, recurses := true, apart := false, narrowed := true }
def PeekCutsUptoSaid : Prop := peekCutsUptoRow.holds Try.pinned (OpenSpec.upto peekCutsSpec)

/-- 'tholepinlaw26.PeekFinds', WHERE WHAT IT READS IS OF BULK AT MOST 1048576: true; the input reads as it did. -/
def peekFindsUptoRow : OpenClaim := { program := "ytcbmnfjbmkpfiaa", sum := "0fb2be4180c2271c6a055eb51a4998d5535f12ed8033c2eefb9bfa2d36ea7229", func := "tholepin/tholepinlaw26.PeekFinds", spec := "peekFinds", inPlace := ["slices.overlaps[tholepin/api.Link]"], unfollowed := true, recurses := true, apart := false, narrowed := true }
def PeekFindsUptoSaid : Prop := peekFindsUptoRow.holds Try.pinned (OpenSpec.upto peekFindsSpec)

end Rows
end Go.Proofs.Ytcbmnfjbmkpfiaa
