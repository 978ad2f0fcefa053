/-
  No cell of these rows narrows 'for every input' (looked for: loops, veiled, ifaces, maps, wideKeys, modest, calm, conditions, laid).
  DERIVED. THE GIVEN ROWS OF THIS SEAT. 8 by the template 'for every input the law returns true; each argument reads behind the call as it read before'; 0 by the template 'total and deterministic' (their statements: YtjgcgedjpppfmaaTotals.lean).
  GIVEN WITH THE SEED: the statements are not yours to turn. If you find one false, say at which input.
  Laid BY PROGRAM, IN A SANDBOX (cutbox-rows.mjs): the forced cells as the released guide's own fill.sh prints them over the translation 90ece57ded716f37… (all of the seat's roots in one cut). By AI agents, Wed Nov 11 2026. No macro, syntax, notation, axiom, sorry.
-/
import Derived.Test.YtjgcgedjpppfmaaChecked
import GoSem.Claim
import GoSem.ClaimJoined
import GoSem.ClaimMapViews
import Derived.JoinedTies
import Derived.KernelRfl
namespace Go.Proofs.Ytjgcgedjpppfmaa
/- THE CELL 'sum', in the pinned program and in every row, IS THE sha256 OF THE DUMP (.gsa) THAT YtjgcgedjpppfmaaProg.lean LOADS. Nothing in Lean hashes anything: it is a label: what it is worth is what the hold of that sum in a sandbox is worth. -/
noncomputable def Try.pinned : Pinned := { name := "ytjgcgedjpppfmaa", sum := "90ece57ded716f37f4db2d53f143c3685a333318aa41c046099fc7a4bd8a358e", checked := Try.checked }
namespace Rows
def none {H : Type} : Left H := { results := [], args := [] }

/-- 'tholepinlaw03.PenFixed': WHATEVER THE INPUT: true; the input reads as it did. -/
def penFixedSpec : ChangeSpec := { name := "penFixed", fn := fun _ => fun
  | [d1, d2] => { results := [.lit (.bool true)], args := [d1, d2] }
  | _ => none }
def penFixedRow : OpenClaim := { program := "ytjgcgedjpppfmaa", sum := "90ece57ded716f37f4db2d53f143c3685a333318aa41c046099fc7a4bd8a358e", func := "tholepin/tholepinlaw03.PenFixed", spec := "penFixed", apart := false }
def PenFixedSaid : Prop := penFixedRow.holds Try.pinned (OpenSpec.ofChange penFixedSpec)

/-- ITS FALSE NEIGHBOUR: 'it returns false'. Refute it at one input. -/
def penFixedWrong : ChangeSpec := { name := "penFixed", fn := fun _ => fun
  | [d1, d2] => { results := [.lit (.bool false)], args := [d1, d2] }
  | _ => none }
def PenFixedWrongFalsely : Prop := penFixedRow.holds Try.pinned (OpenSpec.ofChange penFixedWrong)

/-- 'tholepinlaw03.PenBound': WHATEVER THE INPUT: true; the input reads as it did. -/
def penBoundSpec : ChangeSpec := { name := "penBound", fn := fun _ => fun
  | [d1, d2] => { results := [.lit (.bool true)], args := [d1, d2] }
  | _ => none }
def penBoundRow : OpenClaim := { program := "ytjgcgedjpppfmaa", sum := "90ece57ded716f37f4db2d53f143c3685a333318aa41c046099fc7a4bd8a358e", func := "tholepin/tholepinlaw03.PenBound", spec := "penBound", apart := false }
def PenBoundSaid : Prop := penBoundRow.holds Try.pinned (OpenSpec.ofChange penBoundSpec)

/-- ITS FALSE NEIGHBOUR: 'it returns false'. Refute it at one input. -/
def penBoundWrong : ChangeSpec := { name := "penBound", fn := fun _ => fun
  | [d1, d2] => { results := [.lit (.bool false)], args := [d1, d2] }
  | _ => none }
def PenBoundWrongFalsely : Prop := penBoundRow.holds Try.pinned (OpenSpec.ofChange penBoundWrong)

/-- 'tholepinlaw03.PenPlays': WHATEVER THE INPUT: true; the input reads as it did. -/
def penPlaysSpec : ChangeSpec := { name := "penPlays", fn := fun _ => fun
  | [d1, d2] => { results := [.lit (.bool true)], args := [d1, d2] }
  | _ => none }
def penPlaysRow : OpenClaim := { program := "ytjgcgedjpppfmaa", sum := "90ece57ded716f37f4db2d53f143c3685a333318aa41c046099fc7a4bd8a358e", func := "tholepin/tholepinlaw03.PenPlays", spec := "penPlays", apart := false }
def PenPlaysSaid : Prop := penPlaysRow.holds Try.pinned (OpenSpec.ofChange penPlaysSpec)

/-- ITS FALSE NEIGHBOUR: 'it returns false'. Refute it at one input. -/
def penPlaysWrong : ChangeSpec := { name := "penPlays", fn := fun _ => fun
  | [d1, d2] => { results := [.lit (.bool false)], args := [d1, d2] }
  | _ => none }
def PenPlaysWrongFalsely : Prop := penPlaysRow.holds Try.pinned (OpenSpec.ofChange penPlaysWrong)

/-- 'tholepinlaw03.PenNone': WHATEVER THE INPUT: true; the input reads as it did. -/
def penNoneSpec : ChangeSpec := { name := "penNone", fn := fun _ => fun
  | [d1, d2, d3] => { results := [.lit (.bool true)], args := [d1, d2, d3] }
  | _ => none }
def penNoneRow : OpenClaim := { program := "ytjgcgedjpppfmaa", sum := "90ece57ded716f37f4db2d53f143c3685a333318aa41c046099fc7a4bd8a358e", func := "tholepin/tholepinlaw03.PenNone", spec := "penNone", apart := false }
def PenNoneSaid : Prop := penNoneRow.holds Try.pinned (OpenSpec.ofChange penNoneSpec)

/-- ITS FALSE NEIGHBOUR: 'it returns false'. Refute it at one input. -/
def penNoneWrong : ChangeSpec := { name := "penNone", fn := fun _ => fun
  | [d1, d2, d3] => { results := [.lit (.bool false)], args := [d1, d2, d3] }
  | _ => none }
def PenNoneWrongFalsely : Prop := penNoneRow.holds Try.pinned (OpenSpec.ofChange penNoneWrong)

/-- 'tholepinlaw02.CursorFirst': WHATEVER THE INPUT: true; the input reads as it did. -/
def cursorFirstSpec : ChangeSpec := { name := "cursorFirst", fn := fun _ => fun
  | [d1, d2, d3] => { results := [.lit (.bool true)], args := [d1, d2, d3] }
  | _ => none }
def cursorFirstRow : OpenClaim := { program := "ytjgcgedjpppfmaa", sum := "90ece57ded716f37f4db2d53f143c3685a333318aa41c046099fc7a4bd8a358e", func := "tholepin/tholepinlaw02.CursorFirst", spec := "cursorFirst", apart := false }
def CursorFirstSaid : Prop := cursorFirstRow.holds Try.pinned (OpenSpec.ofChange cursorFirstSpec)

/-- ITS FALSE NEIGHBOUR: 'it returns false'. Refute it at one input. -/
def cursorFirstWrong : ChangeSpec := { name := "cursorFirst", fn := fun _ => fun
  | [d1, d2, d3] => { results := [.lit (.bool false)], args := [d1, d2, d3] }
  | _ => none }
def CursorFirstWrongFalsely : Prop := cursorFirstRow.holds Try.pinned (OpenSpec.ofChange cursorFirstWrong)

/-- 'tholepinlaw02.CursorWhole': WHATEVER THE INPUT: true; the input reads as it did. -/
def cursorWholeSpec : ChangeSpec := { name := "cursorWhole", fn := fun _ => fun
  | [d1, d2] => { results := [.lit (.bool true)], args := [d1, d2] }
  | _ => none }
def cursorWholeRow : OpenClaim := { program := "ytjgcgedjpppfmaa", sum := "90ece57ded716f37f4db2d53f143c3685a333318aa41c046099fc7a4bd8a358e", func := "tholepin/tholepinlaw02.CursorWhole", spec := "cursorWhole", apart := false }
def CursorWholeSaid : Prop := cursorWholeRow.holds Try.pinned (OpenSpec.ofChange cursorWholeSpec)

/-- ITS FALSE NEIGHBOUR: 'it returns false'. Refute it at one input. -/
def cursorWholeWrong : ChangeSpec := { name := "cursorWhole", fn := fun _ => fun
  | [d1, d2] => { results := [.lit (.bool false)], args := [d1, d2] }
  | _ => none }
def CursorWholeWrongFalsely : Prop := cursorWholeRow.holds Try.pinned (OpenSpec.ofChange cursorWholeWrong)

/-- 'tholepinlaw02.CursorPlays': WHATEVER THE INPUT: true; the input reads as it did. -/
def cursorPlaysSpec : ChangeSpec := { name := "cursorPlays", fn := fun _ => fun
  | [d1, d2] => { results := [.lit (.bool true)], args := [d1, d2] }
  | _ => none }
def cursorPlaysRow : OpenClaim := { program := "ytjgcgedjpppfmaa", sum := "90ece57ded716f37f4db2d53f143c3685a333318aa41c046099fc7a4bd8a358e", func := "tholepin/tholepinlaw02.CursorPlays", spec := "cursorPlays", apart := false }
def CursorPlaysSaid : Prop := cursorPlaysRow.holds Try.pinned (OpenSpec.ofChange cursorPlaysSpec)

/-- ITS FALSE NEIGHBOUR: 'it returns false'. Refute it at one input. -/
def cursorPlaysWrong : ChangeSpec := { name := "cursorPlays", fn := fun _ => fun
  | [d1, d2] => { results := [.lit (.bool false)], args := [d1, d2] }
  | _ => none }
def CursorPlaysWrongFalsely : Prop := cursorPlaysRow.holds Try.pinned (OpenSpec.ofChange cursorPlaysWrong)

/-- 'tholepinlaw02.CursorNone': WHATEVER THE INPUT: true; the input reads as it did. -/
def cursorNoneSpec : ChangeSpec := { name := "cursorNone", fn := fun _ => fun
  | [d1, d2] => { results := [.lit (.bool true)], args := [d1, d2] }
  | _ => none }
def cursorNoneRow : OpenClaim := { program := "ytjgcgedjpppfmaa", sum := "90ece57ded716f37f4db2d53f143c3685a333318aa41c046099fc7a4bd8a358e", func := "tholepin/tholepinlaw02.CursorNone", spec := "cursorNone", apart := false }
def CursorNoneSaid : Prop := cursorNoneRow.holds Try.pinned (OpenSpec.ofChange cursorNoneSpec)

/-- ITS FALSE NEIGHBOUR: 'it returns false'. Refute it at one input. -/
def cursorNoneWrong : ChangeSpec := { name := "cursorNone", fn := fun _ => fun
  | [d1, d2] => { results := [.lit (.bool false)], args := [d1, d2] }
  | _ => none }
def CursorNoneWrongFalsely : Prop := cursorNoneRow.holds Try.pinned (OpenSpec.ofChange cursorNoneWrong)

/- THE SECOND FORM. 'bulk': how many values and letters a reading holds, each counted each time it is reached (what is shared counts as often as it is met; a slice's spare places count too). A statement '..UptoSaid' is the law's where the arguments, and the package variables that the reading takes, are together of bulk at most 1048576: NARROWER than '..Said'. Prove '..Said' where nothing that the law and all that it calls make is longer than what came in: it says more and counts as full. Else prove '..UptoSaid'. A law counts once. -/
mutual
def uptoBulk {H : Type} : DataW H → Nat
  | .lit (.string bytes) => bytes.length + 1
  | .lit _ => 1
  | .nil => 1
  | .ptr d => uptoBulk d + 1
  | .slice elems spare => uptoBulkAll elems + uptoBulkAll spare + 1
  | .agg parts => uptoBulkAll parts + 1
  | .iface _ d => uptoBulk d + 1
  | .map entries => uptoBulkEntries entries + 1
  | .held _ => 1
def uptoBulkAll {H : Type} : List (DataW H) → Nat
  | [] => 0
  | d :: r => uptoBulk d + uptoBulkAll r
def uptoBulkEntries {H : Type} : List (Lit × DataW H) → Nat
  | [] => 0
  | x :: r => uptoBulkEntry x + uptoBulkEntries r
def uptoBulkEntry {H : Type} : Lit × DataW H → Nat
  | (.string bytes, d) => bytes.length + uptoBulk d + 1
  | (_, d) => uptoBulk d + 1
 end
def uptoSmall : (H : Type) → List (DataW H) → Bool := fun _ ds => decide (uptoBulkAll ds ≤ 1048576)
def OpenSpec.upto (s : _root_.Go.ChangeSpec) : _root_.Go.OpenSpec := { _root_.Go.OpenSpec.ofChange s with cond := some uptoSmall }

/-- 'tholepinlaw03.PenFixed', WHERE WHAT IT READS IS OF BULK AT MOST 1048576: true; the input reads as it did. -/
def penFixedUptoRow : OpenClaim := { program := "ytjgcgedjpppfmaa", sum := "90ece57ded716f37f4db2d53f143c3685a333318aa41c046099fc7a4bd8a358e", func := "tholepin/tholepinlaw03.PenFixed", spec := "penFixed", apart := false, narrowed := true }
def PenFixedUptoSaid : Prop := penFixedUptoRow.holds Try.pinned (OpenSpec.upto penFixedSpec)

/-- 'tholepinlaw03.PenBound', WHERE WHAT IT READS IS OF BULK AT MOST 1048576: true; the input reads as it did. -/
def penBoundUptoRow : OpenClaim := { program := "ytjgcgedjpppfmaa", sum := "90ece57ded716f37f4db2d53f143c3685a333318aa41c046099fc7a4bd8a358e", func := "tholepin/tholepinlaw03.PenBound", spec := "penBound", apart := false, narrowed := true }
def PenBoundUptoSaid : Prop := penBoundUptoRow.holds Try.pinned (OpenSpec.upto penBoundSpec)

/-- 'tholepinlaw03.PenPlays', WHERE WHAT IT READS IS OF BULK AT MOST 1048576: true; the input reads as it did. -/
def penPlaysUptoRow : OpenClaim := { program := "ytjgcgedjpppfmaa", sum := "90ece57ded716f37f4db2d53f143c3685a333318aa41c046099fc7a4bd8a358e", func := "tholepin/tholepinlaw03.PenPlays", spec := "penPlays", apart := false, narrowed := true }
def PenPlaysUptoSaid : Prop := penPlaysUptoRow.holds Try.pinned (OpenSpec.upto penPlaysSpec)

/-- 'tholepinlaw03.PenNone', WHERE WHAT IT READS IS OF BULK AT MOST 1048576: true; the input reads as it did. -/
def penNoneUptoRow : OpenClaim := { program := "ytjgcgedjpppfmaa", sum := "90ece57ded716f37f4db2d53f143c3685a333318aa41c046099fc7a4bd8a358e", func := "tholepin/tholepinlaw03.PenNone", spec := "penNone", apart := false, narrowed := true }
def PenNoneUptoSaid : Prop := penNoneUptoRow.holds Try.pinned (OpenSpec.upto penNoneSpec)

/-- 'tholepinlaw02.CursorFirst', WHERE WHAT IT READS IS OF BULK AT MOST 1048576: true; the input reads as it did. -/
def cursorFirstUptoRow : OpenClaim := { program := "ytjgcgedjpppfmaa", sum := "90ece57ded716f37f4db2d53f143c3685a333318aa41c046099fc7a4bd8a358e", func := "tholepin/tholepinlaw02.CursorFirst", spec := "cursorFirst", apart := false, narrowed := true }
def CursorFirstUptoSaid : Prop := cursorFirstUptoRow.holds Try.pinned (OpenSpec.upto cursorFirstSpec)

/-- 'tholepinlaw02.CursorWhole', WHERE WHAT IT READS IS OF BULK AT MOST 1048576: true; the input reads as it did. -/
def cursorWholeUptoRow : OpenClaim := { program := "ytjgcgedjpppfmaa", sum := "90ece57ded716f37f4db2d53f143c3685a333318aa41c046099fc7a4bd8a358e", func := "tholepin/tholepinlaw02.CursorWhole", spec := "cursorWhole", apart := false, narrowed := true }
def CursorWholeUptoSaid : Prop := cursorWholeUptoRow.holds Try.pinned (OpenSpec.upto cursorWholeSpec)

/-- 'tholepinlaw02.CursorPlays', WHERE WHAT IT READS IS OF BULK AT MOST 1048576: true; the input reads as it did. -/
def cursorPlaysUptoRow : OpenClaim := { program := "ytjgcgedjpppfmaa", sum := "90ece57ded716f37f4db2d53f143c3685a333318aa41c046099fc7a4bd8a358e", func := "tholepin/tholepinlaw02.CursorPlays", spec := "cursorPlays", apart := false, narrowed := true }
def CursorPlaysUptoSaid : Prop := cursorPlaysUptoRow.holds Try.pinned (OpenSpec.upto cursorPlaysSpec)

/-- 'tholepinlaw02.CursorNone', WHERE WHAT IT READS IS OF BULK AT MOST 1048576: true; the input reads as it did. -/
def cursorNoneUptoRow : OpenClaim := { program := "ytjgcgedjpppfmaa", sum := "90ece57ded716f37f4db2d53f143c3685a333318aa41c046099fc7a4bd8a358e", func := "tholepin/tholepinlaw02.CursorNone", spec := "cursorNone", apart := false, narrowed := true }
def CursorNoneUptoSaid : Prop := cursorNoneUptoRow.holds Try.pinned (OpenSpec.upto cursorNoneSpec)

end Rows
end Go.Proofs.Ytjgcgedjpppfmaa
