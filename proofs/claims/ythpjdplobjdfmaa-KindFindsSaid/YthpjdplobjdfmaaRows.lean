/-
  No cell of these rows narrows 'for every input' (looked for: loops, veiled, ifaces, maps, wideKeys, modest, calm, conditions, laid).
  DERIVED. THE GIVEN ROWS OF THIS SEAT. 4 by the template 'for every input the law returns true; each argument reads behind the call as it read before'; 0 by the template 'total and deterministic' (their statements: YthpjdplobjdfmaaTotals.lean).
  GIVEN WITH THE SEED: the statements are not yours to turn. If you find one false, say at which input.
  Laid BY PROGRAM, IN A SANDBOX (cutbox-rows.mjs): the forced cells as the released guide's own fill.sh prints them over the translation 5991e5377c56cdb3… (all of the seat's roots in one cut). By AI agents, Wed Nov 11 2026. No macro, syntax, notation, axiom, sorry.
-/
import Derived.Test.YthpjdplobjdfmaaChecked
import GoSem.Claim
import GoSem.ClaimJoined
import GoSem.ClaimMapViews
import Derived.JoinedTies
import Derived.KernelRfl
namespace Go.Proofs.Ythpjdplobjdfmaa
/- THE CELL 'sum', in the pinned program and in every row, IS THE sha256 OF THE DUMP (.gsa) THAT YthpjdplobjdfmaaProg.lean LOADS. Nothing in Lean hashes anything: it is a label: what it is worth is what the hold of that sum in a sandbox is worth. -/
noncomputable def Try.pinned : Pinned := { name := "ythpjdplobjdfmaa", sum := "5991e5377c56cdb3fa9900a0206fb469c2aa3345742bbe6a3edbb9fa2c2f95a7", checked := Try.checked }
namespace Rows
def none {H : Type} : Left H := { results := [], args := [] }

/-- 'tholepinlaw27.KindAnswers': WHATEVER THE INPUT: true; the input reads as it did. -/
def kindAnswersSpec : ChangeSpec := { name := "kindAnswers", fn := fun _ => fun
  | [d1, d2] => { results := [.lit (.bool true)], args := [d1, d2] }
  | _ => none }
def kindAnswersRow : OpenClaim := { program := "ythpjdplobjdfmaa", sum := "5991e5377c56cdb3fa9900a0206fb469c2aa3345742bbe6a3edbb9fa2c2f95a7", func := "tholepin/tholepinlaw27.KindAnswers", spec := "kindAnswers", apart := false }
def KindAnswersSaid : Prop := kindAnswersRow.holds Try.pinned (OpenSpec.ofChange kindAnswersSpec)

/-- ITS FALSE NEIGHBOUR: 'it returns false'. Refute it at one input. -/
def kindAnswersWrong : ChangeSpec := { name := "kindAnswers", fn := fun _ => fun
  | [d1, d2] => { results := [.lit (.bool false)], args := [d1, d2] }
  | _ => none }
def KindAnswersWrongFalsely : Prop := kindAnswersRow.holds Try.pinned (OpenSpec.ofChange kindAnswersWrong)

/-- 'tholepinlaw27.KindParts': WHATEVER THE INPUT: true; the input reads as it did. -/
def kindPartsSpec : ChangeSpec := { name := "kindParts", fn := fun _ => fun
  | [d] => { results := [.lit (.bool true)], args := [d] }
  | _ => none }
def kindPartsRow : OpenClaim := { program := "ythpjdplobjdfmaa", sum := "5991e5377c56cdb3fa9900a0206fb469c2aa3345742bbe6a3edbb9fa2c2f95a7", func := "tholepin/tholepinlaw27.KindParts", spec := "kindParts", apart := false }
def KindPartsSaid : Prop := kindPartsRow.holds Try.pinned (OpenSpec.ofChange kindPartsSpec)

/-- ITS FALSE NEIGHBOUR: 'it returns false'. Refute it at one input. -/
def kindPartsWrong : ChangeSpec := { name := "kindParts", fn := fun _ => fun
  | [d] => { results := [.lit (.bool false)], args := [d] }
  | _ => none }
def KindPartsWrongFalsely : Prop := kindPartsRow.holds Try.pinned (OpenSpec.ofChange kindPartsWrong)

/-- 'tholepinlaw27.KindTells': WHATEVER THE INPUT: true; the input reads as it did. -/
def kindTellsSpec : ChangeSpec := { name := "kindTells", fn := fun _ => fun
  | [d1, d2] => { results := [.lit (.bool true)], args := [d1, d2] }
  | _ => none }
def kindTellsRow : OpenClaim := { program := "ythpjdplobjdfmaa", sum := "5991e5377c56cdb3fa9900a0206fb469c2aa3345742bbe6a3edbb9fa2c2f95a7", func := "tholepin/tholepinlaw27.KindTells", spec := "kindTells", apart := false }
def KindTellsSaid : Prop := kindTellsRow.holds Try.pinned (OpenSpec.ofChange kindTellsSpec)

/-- ITS FALSE NEIGHBOUR: 'it returns false'. Refute it at one input. -/
def kindTellsWrong : ChangeSpec := { name := "kindTells", fn := fun _ => fun
  | [d1, d2] => { results := [.lit (.bool false)], args := [d1, d2] }
  | _ => none }
def KindTellsWrongFalsely : Prop := kindTellsRow.holds Try.pinned (OpenSpec.ofChange kindTellsWrong)

/-- 'tholepinlaw27.KindFinds': WHATEVER THE INPUT: true; the input reads as it did. -/
def kindFindsSpec : ChangeSpec := { name := "kindFinds", fn := fun _ => fun
  | [d] => { results := [.lit (.bool true)], args := [d] }
  | _ => none }
def kindFindsRow : OpenClaim := { program := "ythpjdplobjdfmaa", sum := "5991e5377c56cdb3fa9900a0206fb469c2aa3345742bbe6a3edbb9fa2c2f95a7", func := "tholepin/tholepinlaw27.KindFinds", spec := "kindFinds", apart := false }
def KindFindsSaid : Prop := kindFindsRow.holds Try.pinned (OpenSpec.ofChange kindFindsSpec)

/-- ITS FALSE NEIGHBOUR: 'it returns false'. Refute it at one input. -/
def kindFindsWrong : ChangeSpec := { name := "kindFinds", fn := fun _ => fun
  | [d] => { results := [.lit (.bool false)], args := [d] }
  | _ => none }
def KindFindsWrongFalsely : Prop := kindFindsRow.holds Try.pinned (OpenSpec.ofChange kindFindsWrong)

/- THE SECOND FORM. 'bulk': how many values and letters a reading holds, each counted each time it is reached (what is shared counts as often as it is met; a slice's spare places count too). A statement '..UptoSaid' is the law's where the arguments, and the package variables that the reading takes, are together of bulk at most 1048576: NARROWER than '..Said'. Prove '..Said' where nothing that the law and all that it calls make is longer than what came in: it says more and counts as full. Else prove '..UptoSaid'. A law counts once. -/
mutual
def uptoBulk {H : Type} : DataW H → Nat
  | .lit (.string bytes) => bytes.length + 1
  | .lit _ => 1
  | .nil => 1
  | .ptr d => uptoBulk d + 1
  | .slice elems spare => uptoBulkAll elems + uptoBulkAll spare + 1
  | .agg parts => uptoBulkAll parts + 1
  | .iface _ d => uptoBulk d + 1
  | .map entries => uptoBulkEntries entries + 1
  | .held _ => 1
def uptoBulkAll {H : Type} : List (DataW H) → Nat
  | [] => 0
  | d :: r => uptoBulk d + uptoBulkAll r
def uptoBulkEntries {H : Type} : List (Lit × DataW H) → Nat
  | [] => 0
  | x :: r => uptoBulkEntry x + uptoBulkEntries r
def uptoBulkEntry {H : Type} : Lit × DataW H → Nat
  | (.string bytes, d) => bytes.length + uptoBulk d + 1
  | (_, d) => uptoBulk d + 1
 end
def uptoSmall : (H : Type) → List (DataW H) → Bool := fun _ ds => decide (uptoBulkAll ds ≤ 1048576)
def OpenSpec.upto (s : _root_.Go.ChangeSpec) : _root_.Go.OpenSpec := { _root_.Go.OpenSpec.ofChange s with cond := some uptoSmall }

/-- 'tholepinlaw27.KindAnswers', WHERE WHAT IT READS IS OF BULK AT MOST 1048576: true; the input reads as it did. -/
def kindAnswersUptoRow : OpenClaim := { program := "ythpjdplobjdfmaa", sum := "5991e5377c56cdb3fa9900a0206fb469c2aa3345742bbe6a3edbb9fa2c2f95a7", func := "tholepin/tholepinlaw27.KindAnswers", spec := "kindAnswers", apart := false, narrowed := true }
def KindAnswersUptoSaid : Prop := kindAnswersUptoRow.holds Try.pinned (OpenSpec.upto kindAnswersSpec)

/-- 'tholepinlaw27.KindParts', WHERE WHAT IT READS IS OF BULK AT MOST 1048576: true; the input reads as it did. -/
def kindPartsUptoRow : OpenClaim := { program := "ythpjdplobjdfmaa", sum := "5991e5377c56cdb3fa9900a0206fb469c2aa3345742bbe6a3edbb9fa2c2f95a7", func := "tholepin/tholepinlaw27.KindParts", spec := "kindParts", apart := false, narrowed := true }
def KindPartsUptoSaid : Prop := kindPartsUptoRow.holds Try.pinned (OpenSpec.upto kindPartsSpec)

/-- 'tholepinlaw27.KindTells', WHERE WHAT IT READS IS OF BULK AT MOST 1048576: true; the input reads as it did. -/
def kindTellsUptoRow : OpenClaim := { program := "ythpjdplobjdfmaa", sum := "5991e5377c56cdb3fa9900a0206fb469c2aa3345742bbe6a3edbb9fa2c2f95a7", func := "tholepin/tholepinlaw27.KindTells", spec := "kindTells", apart := false, narrowed := true }
def KindTellsUptoSaid : Prop := kindTellsUptoRow.holds Try.pinned (OpenSpec.upto kindTellsSpec)

/-- 'tholepinlaw27.KindFinds', WHERE WHAT IT READS IS OF BULK AT MOST 1048576: true; the input reads as it did. -/
def kindFindsUptoRow : OpenClaim := { program := "ythpjdplobjdfmaa", sum := "5991e5377c56cdb3fa9900a0206fb469c2aa3345742bbe6a3edbb9fa2c2f95a7", func := "tholepin/tholepinlaw27.KindFinds", spec := "kindFinds", apart := false, narrowed := true }
def KindFindsUptoSaid : Prop := kindFindsUptoRow.holds Try.pinned (OpenSpec.upto kindFindsSpec)

end Rows
end Go.Proofs.Ythpjdplobjdfmaa
