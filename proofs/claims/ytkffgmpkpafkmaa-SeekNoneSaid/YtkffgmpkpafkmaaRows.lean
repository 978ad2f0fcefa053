/-
  No cell of these rows narrows 'for every input' (looked for: loops, veiled, ifaces, maps, wideKeys, modest, calm, conditions, laid).
  DERIVED. THE GIVEN ROWS OF THIS SEAT. 7 by the template 'for every input the law returns true; each argument reads behind the call as it read before'; 0 by the template 'total and deterministic' (their statements: YtkffgmpkpafkmaaTotals.lean).
  GIVEN WITH THE SEED: the statements are not yours to turn. If you find one false, say at which input.
  Laid BY PROGRAM, IN A SANDBOX (cutbox-rows.mjs): the forced cells as the released guide's own fill.sh prints them over the translation 1ce834a1d903f0db… (all of the seat's roots in one cut). By AI agents, Wed Nov 11 2026. No macro, syntax, notation, axiom, sorry.
-/
import Derived.Test.YtkffgmpkpafkmaaChecked
import GoSem.Claim
import GoSem.ClaimJoined
import GoSem.ClaimMapViews
import Derived.JoinedTies
import Derived.KernelRfl
namespace Go.Proofs.Ytkffgmpkpafkmaa
/- THE CELL 'sum', in the pinned program and in every row, IS THE sha256 OF THE DUMP (.gsa) THAT YtkffgmpkpafkmaaProg.lean LOADS. Nothing in Lean hashes anything: it is a label: what it is worth is what the hold of that sum in a sandbox is worth. -/
noncomputable def Try.pinned : Pinned := { name := "ytkffgmpkpafkmaa", sum := "1ce834a1d903f0dbd1af1b7baed5d690d7efc82a4b15a11cecd18a7875531e40", checked := Try.checked }
namespace Rows
def none {H : Type} : Left H := { results := [], args := [] }

/-- 'tholepinlaw13.ChainKeys': WHATEVER THE INPUT: true; the input reads as it did. -/
def chainKeysSpec : ChangeSpec := { name := "chainKeys", fn := fun _ => fun
  | [d1, d2, d3] => { results := [.lit (.bool true)], args := [d1, d2, d3] }
  | _ => none }
def chainKeysRow : OpenClaim := { program := "ytkffgmpkpafkmaa", sum := "1ce834a1d903f0dbd1af1b7baed5d690d7efc82a4b15a11cecd18a7875531e40", func := "tholepin/tholepinlaw13.ChainKeys", spec := "chainKeys", unfollowed := true, recurses := true, apart := false }
def ChainKeysSaid : Prop := chainKeysRow.holds Try.pinned (OpenSpec.ofChange chainKeysSpec)

/-- ITS FALSE NEIGHBOUR: 'it returns false'. Refute it at one input. -/
def chainKeysWrong : ChangeSpec := { name := "chainKeys", fn := fun _ => fun
  | [d1, d2, d3] => { results := [.lit (.bool false)], args := [d1, d2, d3] }
  | _ => none }
def ChainKeysWrongFalsely : Prop := chainKeysRow.holds Try.pinned (OpenSpec.ofChange chainKeysWrong)

/-- 'tholepinlaw13.ChainFinds': WHATEVER THE INPUT: true; the input reads as it did. -/
def chainFindsSpec : ChangeSpec := { name := "chainFinds", fn := fun _ => fun
  | [d1, d2, d3] => { results := [.lit (.bool true)], args := [d1, d2, d3] }
  | _ => none }
def chainFindsRow : OpenClaim := { program := "ytkffgmpkpafkmaa", sum := "1ce834a1d903f0dbd1af1b7baed5d690d7efc82a4b15a11cecd18a7875531e40", func := "tholepin/tholepinlaw13.ChainFinds", spec := "chainFinds", unfollowed := true, recurses := true, apart := false }
def ChainFindsSaid : Prop := chainFindsRow.holds Try.pinned (OpenSpec.ofChange chainFindsSpec)

/-- ITS FALSE NEIGHBOUR: 'it returns false'. Refute it at one input. -/
def chainFindsWrong : ChangeSpec := { name := "chainFinds", fn := fun _ => fun
  | [d1, d2, d3] => { results := [.lit (.bool false)], args := [d1, d2, d3] }
  | _ => none }
def ChainFindsWrongFalsely : Prop := chainFindsRow.holds Try.pinned (OpenSpec.ofChange chainFindsWrong)

/-- 'tholepinlaw13.ChainAll': WHATEVER THE INPUT: true; the input reads as it did. -/
def chainAllSpec : ChangeSpec := { name := "chainAll", fn := fun _ => fun
  | [d] => { results := [.lit (.bool true)], args := [d] }
  | _ => none }
def chainAllRow : OpenClaim := { program := "ytkffgmpkpafkmaa", sum := "1ce834a1d903f0dbd1af1b7baed5d690d7efc82a4b15a11cecd18a7875531e40", func := "tholepin/tholepinlaw13.ChainAll", spec := "chainAll", unfollowed := true, recurses := true, apart := false }
def ChainAllSaid : Prop := chainAllRow.holds Try.pinned (OpenSpec.ofChange chainAllSpec)

/-- ITS FALSE NEIGHBOUR: 'it returns false'. Refute it at one input. -/
def chainAllWrong : ChangeSpec := { name := "chainAll", fn := fun _ => fun
  | [d] => { results := [.lit (.bool false)], args := [d] }
  | _ => none }
def ChainAllWrongFalsely : Prop := chainAllRow.holds Try.pinned (OpenSpec.ofChange chainAllWrong)

/-- 'tholepinlaw13.ChainNone': WHATEVER THE INPUT: true; the input reads as it did. -/
def chainNoneSpec : ChangeSpec := { name := "chainNone", fn := fun _ => fun
  | [d1, d2, d3] => { results := [.lit (.bool true)], args := [d1, d2, d3] }
  | _ => none }
def chainNoneRow : OpenClaim := { program := "ytkffgmpkpafkmaa", sum := "1ce834a1d903f0dbd1af1b7baed5d690d7efc82a4b15a11cecd18a7875531e40", func := "tholepin/tholepinlaw13.ChainNone", spec := "chainNone", unfollowed := true, recurses := true, apart := false }
def ChainNoneSaid : Prop := chainNoneRow.holds Try.pinned (OpenSpec.ofChange chainNoneSpec)

/-- ITS FALSE NEIGHBOUR: 'it returns false'. Refute it at one input. -/
def chainNoneWrong : ChangeSpec := { name := "chainNone", fn := fun _ => fun
  | [d1, d2, d3] => { results := [.lit (.bool false)], args := [d1, d2, d3] }
  | _ => none }
def ChainNoneWrongFalsely : Prop := chainNoneRow.holds Try.pinned (OpenSpec.ofChange chainNoneWrong)

/-- 'tholepinlaw14.SeekMatches': WHATEVER THE INPUT: true; the input reads as it did. -/
def seekMatchesSpec : ChangeSpec := { name := "seekMatches", fn := fun _ => fun
  | [d1, d2, d3] => { results := [.lit (.bool true)], args := [d1, d2, d3] }
  | _ => none }
def seekMatchesRow : OpenClaim := { program := "ytkffgmpkpafkmaa", sum := "1ce834a1d903f0dbd1af1b7baed5d690d7efc82a4b15a11cecd18a7875531e40", func := "tholepin/tholepinlaw14.SeekMatches", spec := "seekMatches", unfollowed := true, recurses := true, apart := false }
def SeekMatchesSaid : Prop := seekMatchesRow.holds Try.pinned (OpenSpec.ofChange seekMatchesSpec)

/-- ITS FALSE NEIGHBOUR: 'it returns false'. Refute it at one input. -/
def seekMatchesWrong : ChangeSpec := { name := "seekMatches", fn := fun _ => fun
  | [d1, d2, d3] => { results := [.lit (.bool false)], args := [d1, d2, d3] }
  | _ => none }
def SeekMatchesWrongFalsely : Prop := seekMatchesRow.holds Try.pinned (OpenSpec.ofChange seekMatchesWrong)

/-- 'tholepinlaw14.SeekGoes': WHATEVER THE INPUT: true; the input reads as it did. -/
def seekGoesSpec : ChangeSpec := { name := "seekGoes", fn := fun _ => fun
  | [d1, d2] => { results := [.lit (.bool true)], args := [d1, d2] }
  | _ => none }
def seekGoesRow : OpenClaim := { program := "ytkffgmpkpafkmaa", sum := "1ce834a1d903f0dbd1af1b7baed5d690d7efc82a4b15a11cecd18a7875531e40", func := "tholepin/tholepinlaw14.SeekGoes", spec := "seekGoes", unfollowed := true, recurses := true, apart := false }
def SeekGoesSaid : Prop := seekGoesRow.holds Try.pinned (OpenSpec.ofChange seekGoesSpec)

/-- ITS FALSE NEIGHBOUR: 'it returns false'. Refute it at one input. -/
def seekGoesWrong : ChangeSpec := { name := "seekGoes", fn := fun _ => fun
  | [d1, d2] => { results := [.lit (.bool false)], args := [d1, d2] }
  | _ => none }
def SeekGoesWrongFalsely : Prop := seekGoesRow.holds Try.pinned (OpenSpec.ofChange seekGoesWrong)

/-- 'tholepinlaw14.SeekNone': WHATEVER THE INPUT: true; the input reads as it did. -/
def seekNoneSpec : ChangeSpec := { name := "seekNone", fn := fun _ => fun
  | [d1, d2] => { results := [.lit (.bool true)], args := [d1, d2] }
  | _ => none }
def seekNoneRow : OpenClaim := { program := "ytkffgmpkpafkmaa", sum := "1ce834a1d903f0dbd1af1b7baed5d690d7efc82a4b15a11cecd18a7875531e40", func := "tholepin/tholepinlaw14.SeekNone", spec := "seekNone", unfollowed := true, recurses := true, apart := false }
def SeekNoneSaid : Prop := seekNoneRow.holds Try.pinned (OpenSpec.ofChange seekNoneSpec)

/-- ITS FALSE NEIGHBOUR: 'it returns false'. Refute it at one input. -/
def seekNoneWrong : ChangeSpec := { name := "seekNone", fn := fun _ => fun
  | [d1, d2] => { results := [.lit (.bool false)], args := [d1, d2] }
  | _ => none }
def SeekNoneWrongFalsely : Prop := seekNoneRow.holds Try.pinned (OpenSpec.ofChange seekNoneWrong)

/- THE SECOND FORM. 'bulk': how many values and letters a reading holds, each counted each time it is reached (what is shared counts as often as it is met; a slice's spare places count too). A statement '..UptoSaid' is the law's where the arguments, and the package variables that the reading takes, are together of bulk at most 1048576: NARROWER than '..Said'. Prove '..Said' where nothing that the law and all that it calls make is longer than what came in: it says more and counts as full. Else prove '..UptoSaid'. A law counts once. -/
mutual
def uptoBulk {H : Type} : DataW H → Nat
  | .lit (.string bytes) => bytes.length + 1
  | .lit _ => 1
  | .nil => 1
  | .ptr d => uptoBulk d + 1
  | .slice elems spare => uptoBulkAll elems + uptoBulkAll spare + 1
  | .agg parts => uptoBulkAll parts + 1
  | .iface _ d => uptoBulk d + 1
  | .map entries => uptoBulkEntries entries + 1
  | .held _ => 1
def uptoBulkAll {H : Type} : List (DataW H) → Nat
  | [] => 0
  | d :: r => uptoBulk d + uptoBulkAll r
def uptoBulkEntries {H : Type} : List (Lit × DataW H) → Nat
  | [] => 0
  | x :: r => uptoBulkEntry x + uptoBulkEntries r
def uptoBulkEntry {H : Type} : Lit × DataW H → Nat
  | (.string bytes, d) => bytes.length + uptoBulk d + 1
  | (_, d) => uptoBulk d + 1
 end
def uptoSmall : (H : Type) → List (DataW H) → Bool := fun _ ds => decide (uptoBulkAll ds ≤ 1048576)
def OpenSpec.upto (s : _root_.Go.ChangeSpec) : _root_.Go.OpenSpec := { _root_.Go.OpenSpec.ofChange s with cond := some uptoSmall }

/-- 'tholepinlaw13.ChainKeys', WHERE WHAT IT READS IS OF BULK AT MOST 1048576: true; the input reads as it did. -/
def chainKeysUptoRow : OpenClaim := { program := "ytkffgmpkpafkmaa", sum := "1ce834a1d903f0dbd1af1b7baed5d690d7efc82a4b15a11cecd18a7875531e40", func := "tholepin/tholepinlaw13.ChainKeys", spec := "chainKeys", unfollowed := true, recurses := true, apart := false, narrowed := true }
def ChainKeysUptoSaid : Prop := chainKeysUptoRow.holds Try.pinned (OpenSpec.upto chainKeysSpec)

/-- 'tholepinlaw13.ChainFinds', WHERE WHAT IT READS IS OF BULK AT MOST 1048576: true; the input reads as it did. -/
def chainFindsUptoRow : OpenClaim := { program := "ytkffgmpkpafkmaa", sum := "1ce834a1d903f0dbd1af1b7baed5d690d7efc82a4b15a11cecd18a7875531e40", func := "tholepin/tholepinlaw13.ChainFinds", spec := "chainFinds", unfollowed := true, recurses := true, apart := false, narrowed := true }
def ChainFindsUptoSaid : Prop := chainFindsUptoRow.holds Try.pinned (OpenSpec.upto chainFindsSpec)

/-- 'tholepinlaw13.ChainAll', WHERE WHAT IT READS IS OF BULK AT MOST 1048576: true; the input reads as it did. -/
def chainAllUptoRow : OpenClaim := { program := "ytkffgmpkpafkmaa", sum := "1ce834a1d903f0dbd1af1b7baed5d690d7efc82a4b15a11cecd18a7875531e40", func := "tholepin/tholepinlaw13.ChainAll", spec := "chainAll", unfollowed := true, recurses := true, apart := false, narrowed := true }
def ChainAllUptoSaid : Prop := chainAllUptoRow.holds Try.pinned (OpenSpec.upto chainAllSpec)

/-- 'tholepinlaw13.ChainNone', WHERE WHAT IT READS IS OF BULK AT MOST 1048576: true; the input reads as it did. -/
def chainNoneUptoRow : OpenClaim := { program := "ytkffgmpkpafkmaa", sum := "1ce834a1d903f0dbd1af1b7baed5d690d7efc82a4b15a11cecd18a7875531e40", func := "tholepin/tholepinlaw13.ChainNone", spec := "chainNone", unfollowed := true, recurses := true, apart := false, narrowed := true }
def ChainNoneUptoSaid : Prop := chainNoneUptoRow.holds Try.pinned (OpenSpec.upto chainNoneSpec)

/-- 'tholepinlaw14.SeekMatches', WHERE WHAT IT READS IS OF BULK AT MOST 1048576: true; the input reads as it did. -/
def seekMatchesUptoRow : OpenClaim := { program := "ytkffgmpkpafkmaa", sum := "1ce834a1d903f0dbd1af1b7baed5d690d7efc82a4b15a11cecd18a7875531e40", func := "tholepin/tholepinlaw14.SeekMatches", spec := "seekMatches", unfollowed := true, recurses := true, apart := false, narrowed := true }
def SeekMatchesUptoSaid : Prop := seekMatchesUptoRow.holds Try.pinned (OpenSpec.upto seekMatchesSpec)

/-- 'tholepinlaw14.SeekGoes', WHERE WHAT IT READS IS OF BULK AT MOST 1048576: true; the input reads as it did. -/
def seekGoesUptoRow : OpenClaim := { program := "ytkffgmpkpafkmaa", sum := "1ce834a1d903f0dbd1af1b7baed5d690d7efc82a4b15a11cecd18a7875531e40", func := "tholepin/tholepinlaw14.SeekGoes", spec := "seekGoes", unfollowed := true, recurses := true, apart := false, narrowed := true }
def SeekGoesUptoSaid : Prop := seekGoesUptoRow.holds Try.pinned (OpenSpec.upto seekGoesSpec)

/-- 'tholepinlaw14.SeekNone', WHERE WHAT IT READS IS OF BULK AT MOST 1048576: true; the input reads as it did. -/
def seekNoneUptoRow : OpenClaim := { program := "ytkffgmpkpafkmaa", sum := "1ce834a1d903f0dbd1af1b7baed5d690d7efc82a4b15a11cecd18a7875531e40", func := "tholepin/tholepinlaw14.SeekNone", spec := "seekNone", unfollowed := true, recurses := true, apart := false, narrowed := true }
def SeekNoneUptoSaid : Prop := seekNoneUptoRow.holds Try.pinned (OpenSpec.upto seekNoneSpec)

end Rows
end Go.Proofs.Ytkffgmpkpafkmaa
