/-
  No cell of these rows narrows 'for every input' (looked for: loops, veiled, ifaces, maps, wideKeys, modest, calm, conditions, laid).
  DERIVED. THE GIVEN ROWS OF THIS SEAT. 4 by the template 'for every input the law returns true; each argument reads behind the call as it read before'; 0 by the template 'total and deterministic' (their statements: YtlfieiiegokejaaTotals.lean).
  GIVEN WITH THE SEED: the statements are not yours to turn. If you find one false, say at which input.
  Laid BY PROGRAM, IN A SANDBOX (cutbox-rows.mjs): the forced cells as the released guide's own fill.sh prints them over the translation 2c53ac0e21f42170… (all of the seat's roots in one cut). By AI agents, Wed Nov 11 2026. No macro, syntax, notation, axiom, sorry.
-/
import Derived.Test.YtlfieiiegokejaaChecked
import GoSem.Claim
import GoSem.ClaimJoined
import GoSem.ClaimMapViews
import Derived.JoinedTies
import Derived.KernelRfl
namespace Go.Proofs.Ytlfieiiegokejaa
/- THE CELL 'sum', in the pinned program and in every row, IS THE sha256 OF THE DUMP (.gsa) THAT YtlfieiiegokejaaProg.lean LOADS. Nothing in Lean hashes anything: it is a label: what it is worth is what the hold of that sum in a sandbox is worth. -/
noncomputable def Try.pinned : Pinned := { name := "ytlfieiiegokejaa", sum := "2c53ac0e21f42170339d652c45aad92f8c2518a1f2329fc7c160f98487d5657a", checked := Try.checked }
namespace Rows
def none {H : Type} : Left H := { results := [], args := [] }

/-- 'tholepinlaw30.TalkFits': WHATEVER THE INPUT: true; the input reads as it did. -/
def talkFitsSpec : ChangeSpec := { name := "talkFits", fn := fun _ => fun
  | [d1, d2] => { results := [.lit (.bool true)], args := [d1, d2] }
  | _ => none }
def talkFitsRow : OpenClaim := { program := "ytlfieiiegokejaa", sum := "2c53ac0e21f42170339d652c45aad92f8c2518a1f2329fc7c160f98487d5657a", func := "tholepin/tholepinlaw30.TalkFits", spec := "talkFits", unfollowed := true, recurses := true, apart := false }
def TalkFitsSaid : Prop := talkFitsRow.holds Try.pinned (OpenSpec.ofChange talkFitsSpec)

/-- ITS FALSE NEIGHBOUR: 'it returns false'. Refute it at one input. -/
def talkFitsWrong : ChangeSpec := { name := "talkFits", fn := fun _ => fun
  | [d1, d2] => { results := [.lit (.bool false)], args := [d1, d2] }
  | _ => none }
def TalkFitsWrongFalsely : Prop := talkFitsRow.holds Try.pinned (OpenSpec.ofChange talkFitsWrong)

/-- 'tholepinlaw30.TalkChecks': WHATEVER THE INPUT: true; the input reads as it did. -/
def talkChecksSpec : ChangeSpec := { name := "talkChecks", fn := fun _ => fun
  | [d1, d2] => { results := [.lit (.bool true)], args := [d1, d2] }
  | _ => none }
def talkChecksRow : OpenClaim := { program := "ytlfieiiegokejaa", sum := "2c53ac0e21f42170339d652c45aad92f8c2518a1f2329fc7c160f98487d5657a", func := "tholepin/tholepinlaw30.TalkChecks", spec := "talkChecks", unfollowed := true, recurses := true, apart := false }
def TalkChecksSaid : Prop := talkChecksRow.holds Try.pinned (OpenSpec.ofChange talkChecksSpec)

/-- ITS FALSE NEIGHBOUR: 'it returns false'. Refute it at one input. -/
def talkChecksWrong : ChangeSpec := { name := "talkChecks", fn := fun _ => fun
  | [d1, d2] => { results := [.lit (.bool false)], args := [d1, d2] }
  | _ => none }
def TalkChecksWrongFalsely : Prop := talkChecksRow.holds Try.pinned (OpenSpec.ofChange talkChecksWrong)

/-- 'tholepinlaw30.TalkFails': WHATEVER THE INPUT: true; the input reads as it did. -/
def talkFailsSpec : ChangeSpec := { name := "talkFails", fn := fun _ => fun
  | [d1, d2, d3] => { results := [.lit (.bool true)], args := [d1, d2, d3] }
  | _ => none }
def talkFailsRow : OpenClaim := { program := "ytlfieiiegokejaa", sum := "2c53ac0e21f42170339d652c45aad92f8c2518a1f2329fc7c160f98487d5657a", func := "tholepin/tholepinlaw30.TalkFails", spec := "talkFails", unfollowed := true, recurses := true, apart := false }
def TalkFailsSaid : Prop := talkFailsRow.holds Try.pinned (OpenSpec.ofChange talkFailsSpec)

/-- ITS FALSE NEIGHBOUR: 'it returns false'. Refute it at one input. -/
def talkFailsWrong : ChangeSpec := { name := "talkFails", fn := fun _ => fun
  | [d1, d2, d3] => { results := [.lit (.bool false)], args := [d1, d2, d3] }
  | _ => none }
def TalkFailsWrongFalsely : Prop := talkFailsRow.holds Try.pinned (OpenSpec.ofChange talkFailsWrong)

/-- 'tholepinlaw30.TalkPairs': WHATEVER THE INPUT: true; the input reads as it did. -/
def talkPairsSpec : ChangeSpec := { name := "talkPairs", fn := fun _ => fun
  | [d] => { results := [.lit (.bool true)], args := [d] }
  | _ => none }
def talkPairsRow : OpenClaim := { program := "ytlfieiiegokejaa", sum := "2c53ac0e21f42170339d652c45aad92f8c2518a1f2329fc7c160f98487d5657a", func := "tholepin/tholepinlaw30.TalkPairs", spec := "talkPairs", unfollowed := true, recurses := true, apart := false }
def TalkPairsSaid : Prop := talkPairsRow.holds Try.pinned (OpenSpec.ofChange talkPairsSpec)

/-- ITS FALSE NEIGHBOUR: 'it returns false'. Refute it at one input. -/
def talkPairsWrong : ChangeSpec := { name := "talkPairs", fn := fun _ => fun
  | [d] => { results := [.lit (.bool false)], args := [d] }
  | _ => none }
def TalkPairsWrongFalsely : Prop := talkPairsRow.holds Try.pinned (OpenSpec.ofChange talkPairsWrong)

/- THE SECOND FORM. 'bulk': how many values and letters a reading holds, each counted each time it is reached (what is shared counts as often as it is met; a slice's spare places count too). A statement '..UptoSaid' is the law's where the arguments, and the package variables that the reading takes, are together of bulk at most 1048576: NARROWER than '..Said'. Prove '..Said' where nothing that the law and all that it calls make is longer than what came in: it says more and counts as full. Else prove '..UptoSaid'. A law counts once. -/
mutual
def uptoBulk {H : Type} : DataW H → Nat
  | .lit (.string bytes) => bytes.length + 1
  | .lit _ => 1
  | .nil => 1
  | .ptr d => uptoBulk d + 1
  | .slice elems spare => uptoBulkAll elems + uptoBulkAll spare + 1
  | .agg parts => uptoBulkAll parts + 1
  | .iface _ d => uptoBulk d + 1
  | .map entries => uptoBulkEntries entries + 1
  | .held _ => 1
def uptoBulkAll {H : Type} : List (DataW H) → Nat
  | [] => 0
  | d :: r => uptoBulk d + uptoBulkAll r
def uptoBulkEntries {H : Type} : List (Lit × DataW H) → Nat
  | [] => 0
  | x :: r => uptoBulkEntry x + uptoBulkEntries r
def uptoBulkEntry {H : Type} : Lit × DataW H → Nat
  | (.string bytes, d) => bytes.length + uptoBulk d + 1
  | (_, d) => uptoBulk d + 1
 end
def uptoSmall : (H : Type) → List (DataW H) → Bool := fun _ ds => decide (uptoBulkAll ds ≤ 1048576)
def OpenSpec.upto (s : _root_.Go.ChangeSpec) : _root_.Go.OpenSpec := { _root_.Go.OpenSpec.ofChange s with cond := some uptoSmall }

/-- 'tholepinlaw30.TalkFits', WHERE WHAT IT READS IS OF BULK AT MOST 1048576: true; the input reads as it did. -/
def talkFitsUptoRow : OpenClaim := { program := "ytlfieiiegokejaa", sum := "2c53ac0e21f42170339d652c45aad92f8c2518a1f2329fc7c160f98487d5657a", func := "tholepin/tholepinlaw30.TalkFits", spec := "talkFits", unfollowed := true, recurses := true, apart := false, narrowed := true }
def TalkFitsUptoSaid : Prop := talkFitsUptoRow.holds Try.pinned (OpenSpec.upto talkFitsSpec)

/-- 'tholepinlaw30.TalkChecks', WHERE WHAT IT READS IS OF BULK AT MOST 1048576: true; the input reads as it did. -/
def talkChecksUptoRow : OpenClaim := { program := "ytlfieiiegokejaa", sum := "2c53ac0e21f42170339d652c45aad92f8c2518a1f2329fc7c160f98487d5657a", func := "tholepin/tholepinlaw30.TalkChecks", spec := "talkChecks", unfollowed := true, recurses := true, apart := false, narrowed := true }
def TalkChecksUptoSaid : Prop := talkChecksUptoRow.holds Try.pinned (OpenSpec.upto talkChecksSpec)

/-- 'tholepinlaw30.TalkFails', WHERE WHAT IT READS IS OF BULK AT MOST 1048576: true; the input reads as it did. -/
def talkFailsUptoRow : OpenClaim := { program := "ytlfieiiegokejaa", sum := "2c53ac0e21f42170339d652c45aad92f8c2518a1f2329fc7c160f98487d5657a", func := "tholepin/tholepinlaw30.TalkFails", spec := "talkFails", unfollowed := true, recurses := true, apart := false, narrowed := true }
def TalkFailsUptoSaid : Prop := talkFailsUptoRow.holds Try.pinned (OpenSpec.upto talkFailsSpec)

/-- 'tholepinlaw30.TalkPairs', WHERE WHAT IT READS IS OF BULK AT MOST 1048576: true; the input reads as it did. -/
def talkPairsUptoRow : OpenClaim := { program := "ytlfieiiegokejaa", sum := "2c53ac0e21f42170339d652c45aad92f8c2518a1f2329fc7c160f98487d5657a", func := "tholepin/tholepinlaw30.TalkPairs", spec := "talkPairs", unfollowed := true, recurses := true, apart := false, narrowed := true }
def TalkPairsUptoSaid : Prop := talkPairsUptoRow.holds Try.pinned (OpenSpec.upto talkPairsSpec)

end Rows
end Go.Proofs.Ytlfieiiegokejaa
