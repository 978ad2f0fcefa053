/-
  No cell of these rows narrows 'for every input' (looked for: loops, veiled, ifaces, maps, wideKeys, modest, calm, conditions, laid).
  DERIVED. THE GIVEN ROWS OF THIS SEAT. 13 by the template 'for every input the law returns true; each argument reads behind the call as it read before'; 0 by the template 'total and deterministic' (their statements: YtmdgmnaaopineaaTotals.lean).
  GIVEN WITH THE SEED: the statements are not yours to turn. If you find one false, say at which input.
  Laid BY PROGRAM, IN A SANDBOX (cutbox-rows.mjs): the forced cells as the released guide's own fill.sh prints them over the translation 67cc1be445c542ce… (all of the seat's roots in one cut). By AI agents, Wed Nov 11 2026. No macro, syntax, notation, axiom, sorry.
-/
import Derived.Test.YtmdgmnaaopineaaChecked
import GoSem.Claim
import GoSem.ClaimJoined
import GoSem.ClaimMapViews
import Derived.JoinedTies
import Derived.KernelRfl
namespace Go.Proofs.Ytmdgmnaaopineaa
/- THE CELL 'sum', in the pinned program and in every row, IS THE sha256 OF THE DUMP (.gsa) THAT YtmdgmnaaopineaaProg.lean LOADS. Nothing in Lean hashes anything: it is a label: what it is worth is what the hold of that sum in a sandbox is worth. -/
noncomputable def Try.pinned : Pinned := { name := "ytmdgmnaaopineaa", sum := "67cc1be445c542ce1bfd96125b32035bad537ee35b57b96975666f3b45a82b19", checked := Try.checked }
namespace Rows
def none {H : Type} : Left H := { results := [], args := [] }

/-- 'tholepintop.TopMoves': WHATEVER THE INPUT: true; the input reads as it did. -/
def topMovesSpec : ChangeSpec := { name := "topMoves", fn := fun _ => fun
  | [d1, d2, d3] => { results := [.lit (.bool true)], args := [d1, d2, d3] }
  | _ => none }
def topMovesRow : OpenClaim := { program := "ytmdgmnaaopineaa", sum := "67cc1be445c542ce1bfd96125b32035bad537ee35b57b96975666f3b45a82b19", func := "tholepin/tholepintop.TopMoves", spec := "topMoves", unfollowed := true, recurses := true, apart := false }
def TopMovesSaid : Prop := topMovesRow.holds Try.pinned (OpenSpec.ofChange topMovesSpec)

/-- ITS FALSE NEIGHBOUR: 'it returns false'. Refute it at one input. -/
def topMovesWrong : ChangeSpec := { name := "topMoves", fn := fun _ => fun
  | [d1, d2, d3] => { results := [.lit (.bool false)], args := [d1, d2, d3] }
  | _ => none }
def TopMovesWrongFalsely : Prop := topMovesRow.holds Try.pinned (OpenSpec.ofChange topMovesWrong)

/-- 'tholepinlaw21.LocatePlaces': WHATEVER THE INPUT: true; the input reads as it did. -/
def locatePlacesSpec : ChangeSpec := { name := "locatePlaces", fn := fun _ => fun
  | [d1, d2] => { results := [.lit (.bool true)], args := [d1, d2] }
  | _ => none }
def locatePlacesRow : OpenClaim := { program := "ytmdgmnaaopineaa", sum := "67cc1be445c542ce1bfd96125b32035bad537ee35b57b96975666f3b45a82b19", func := "tholepin/tholepinlaw21.LocatePlaces", spec := "locatePlaces", unfollowed := true, recurses := true, apart := false }
def LocatePlacesSaid : Prop := locatePlacesRow.holds Try.pinned (OpenSpec.ofChange locatePlacesSpec)

/-- ITS FALSE NEIGHBOUR: 'it returns false'. Refute it at one input. -/
def locatePlacesWrong : ChangeSpec := { name := "locatePlaces", fn := fun _ => fun
  | [d1, d2] => { results := [.lit (.bool false)], args := [d1, d2] }
  | _ => none }
def LocatePlacesWrongFalsely : Prop := locatePlacesRow.holds Try.pinned (OpenSpec.ofChange locatePlacesWrong)

/-- 'tholepinlaw21.LocatePos': WHATEVER THE INPUT: true; the input reads as it did. -/
def locatePosSpec : ChangeSpec := { name := "locatePos", fn := fun _ => fun
  | [d1, d2, d3] => { results := [.lit (.bool true)], args := [d1, d2, d3] }
  | _ => none }
def locatePosRow : OpenClaim := { program := "ytmdgmnaaopineaa", sum := "67cc1be445c542ce1bfd96125b32035bad537ee35b57b96975666f3b45a82b19", func := "tholepin/tholepinlaw21.LocatePos", spec := "locatePos", unfollowed := true, recurses := true, apart := false }
def LocatePosSaid : Prop := locatePosRow.holds Try.pinned (OpenSpec.ofChange locatePosSpec)

/-- ITS FALSE NEIGHBOUR: 'it returns false'. Refute it at one input. -/
def locatePosWrong : ChangeSpec := { name := "locatePos", fn := fun _ => fun
  | [d1, d2, d3] => { results := [.lit (.bool false)], args := [d1, d2, d3] }
  | _ => none }
def LocatePosWrongFalsely : Prop := locatePosRow.holds Try.pinned (OpenSpec.ofChange locatePosWrong)

/-- 'tholepinlaw21.LocateMoves': WHATEVER THE INPUT: true; the input reads as it did. -/
def locateMovesSpec : ChangeSpec := { name := "locateMoves", fn := fun _ => fun
  | [d1, d2, d3] => { results := [.lit (.bool true)], args := [d1, d2, d3] }
  | _ => none }
def locateMovesRow : OpenClaim := { program := "ytmdgmnaaopineaa", sum := "67cc1be445c542ce1bfd96125b32035bad537ee35b57b96975666f3b45a82b19", func := "tholepin/tholepinlaw21.LocateMoves", spec := "locateMoves", unfollowed := true, recurses := true, apart := false }
def LocateMovesSaid : Prop := locateMovesRow.holds Try.pinned (OpenSpec.ofChange locateMovesSpec)

/-- ITS FALSE NEIGHBOUR: 'it returns false'. Refute it at one input. -/
def locateMovesWrong : ChangeSpec := { name := "locateMoves", fn := fun _ => fun
  | [d1, d2, d3] => { results := [.lit (.bool false)], args := [d1, d2, d3] }
  | _ => none }
def LocateMovesWrongFalsely : Prop := locateMovesRow.holds Try.pinned (OpenSpec.ofChange locateMovesWrong)

/-- 'tholepinlaw20.ProjGrows': WHATEVER THE INPUT: true; the input reads as it did. -/
def projGrowsSpec : ChangeSpec := { name := "projGrows", fn := fun _ => fun
  | [d1, d2, d3] => { results := [.lit (.bool true)], args := [d1, d2, d3] }
  | _ => none }
def projGrowsRow : OpenClaim := { program := "ytmdgmnaaopineaa", sum := "67cc1be445c542ce1bfd96125b32035bad537ee35b57b96975666f3b45a82b19", func := "tholepin/tholepinlaw20.ProjGrows", spec := "projGrows", unfollowed := true, recurses := true, apart := false }
def ProjGrowsSaid : Prop := projGrowsRow.holds Try.pinned (OpenSpec.ofChange projGrowsSpec)

/-- ITS FALSE NEIGHBOUR: 'it returns false'. Refute it at one input. -/
def projGrowsWrong : ChangeSpec := { name := "projGrows", fn := fun _ => fun
  | [d1, d2, d3] => { results := [.lit (.bool false)], args := [d1, d2, d3] }
  | _ => none }
def ProjGrowsWrongFalsely : Prop := projGrowsRow.holds Try.pinned (OpenSpec.ofChange projGrowsWrong)

/-- 'tholepinlaw19.StripeReads': WHATEVER THE INPUT: true; the input reads as it did. -/
def stripeReadsSpec : ChangeSpec := { name := "stripeReads", fn := fun _ => fun
  | [d1, d2] => { results := [.lit (.bool true)], args := [d1, d2] }
  | _ => none }
def stripeReadsRow : OpenClaim := { program := "ytmdgmnaaopineaa", sum := "67cc1be445c542ce1bfd96125b32035bad537ee35b57b96975666f3b45a82b19", func := "tholepin/tholepinlaw19.StripeReads", spec := "stripeReads", recurses := true, apart := false }
def StripeReadsSaid : Prop := stripeReadsRow.holds Try.pinned (OpenSpec.ofChange stripeReadsSpec)

/-- ITS FALSE NEIGHBOUR: 'it returns false'. Refute it at one input. -/
def stripeReadsWrong : ChangeSpec := { name := "stripeReads", fn := fun _ => fun
  | [d1, d2] => { results := [.lit (.bool false)], args := [d1, d2] }
  | _ => none }
def StripeReadsWrongFalsely : Prop := stripeReadsRow.holds Try.pinned (OpenSpec.ofChange stripeReadsWrong)

/-- 'tholepinlaw19.StripeWrites': WHATEVER THE INPUT: true; the input reads as it did. -/
def stripeWritesSpec : ChangeSpec := { name := "stripeWrites", fn := fun _ => fun
  | [d1, d2, d3] => { results := [.lit (.bool true)], args := [d1, d2, d3] }
  | _ => none }
def stripeWritesRow : OpenClaim := { program := "ytmdgmnaaopineaa", sum := "67cc1be445c542ce1bfd96125b32035bad537ee35b57b96975666f3b45a82b19", func := "tholepin/tholepinlaw19.StripeWrites", spec := "stripeWrites", unfollowed := true, recurses := true, apart := false }
def StripeWritesSaid : Prop := stripeWritesRow.holds Try.pinned (OpenSpec.ofChange stripeWritesSpec)

/-- ITS FALSE NEIGHBOUR: 'it returns false'. Refute it at one input. -/
def stripeWritesWrong : ChangeSpec := { name := "stripeWrites", fn := fun _ => fun
  | [d1, d2, d3] => { results := [.lit (.bool false)], args := [d1, d2, d3] }
  | _ => none }
def StripeWritesWrongFalsely : Prop := stripeWritesRow.holds Try.pinned (OpenSpec.ofChange stripeWritesWrong)

/-- 'tholepinlaw20.ProjReads': WHATEVER THE INPUT: true; the input reads as it did. -/
def projReadsSpec : ChangeSpec := { name := "projReads", fn := fun _ => fun
  | [d] => { results := [.lit (.bool true)], args := [d] }
  | _ => none }
def projReadsRow : OpenClaim := { program := "ytmdgmnaaopineaa", sum := "67cc1be445c542ce1bfd96125b32035bad537ee35b57b96975666f3b45a82b19", func := "tholepin/tholepinlaw20.ProjReads", spec := "projReads", unfollowed := true, recurses := true, apart := false }
def ProjReadsSaid : Prop := projReadsRow.holds Try.pinned (OpenSpec.ofChange projReadsSpec)

/-- ITS FALSE NEIGHBOUR: 'it returns false'. Refute it at one input. -/
def projReadsWrong : ChangeSpec := { name := "projReads", fn := fun _ => fun
  | [d] => { results := [.lit (.bool false)], args := [d] }
  | _ => none }
def ProjReadsWrongFalsely : Prop := projReadsRow.holds Try.pinned (OpenSpec.ofChange projReadsWrong)

/-- 'tholepinlaw20.ProjWrites': WHATEVER THE INPUT: true; the input reads as it did. -/
def projWritesSpec : ChangeSpec := { name := "projWrites", fn := fun _ => fun
  | [d1, d2, d3] => { results := [.lit (.bool true)], args := [d1, d2, d3] }
  | _ => none }
def projWritesRow : OpenClaim := { program := "ytmdgmnaaopineaa", sum := "67cc1be445c542ce1bfd96125b32035bad537ee35b57b96975666f3b45a82b19", func := "tholepin/tholepinlaw20.ProjWrites", spec := "projWrites", unfollowed := true, recurses := true, apart := false }
def ProjWritesSaid : Prop := projWritesRow.holds Try.pinned (OpenSpec.ofChange projWritesSpec)

/-- ITS FALSE NEIGHBOUR: 'it returns false'. Refute it at one input. -/
def projWritesWrong : ChangeSpec := { name := "projWrites", fn := fun _ => fun
  | [d1, d2, d3] => { results := [.lit (.bool false)], args := [d1, d2, d3] }
  | _ => none }
def ProjWritesWrongFalsely : Prop := projWritesRow.holds Try.pinned (OpenSpec.ofChange projWritesWrong)

/-- 'tholepinlaw19.StripeDeals': WHATEVER THE INPUT: true; the input reads as it did. -/
def stripeDealsSpec : ChangeSpec := { name := "stripeDeals", fn := fun _ => fun
  | [d1, d2, d3] => { results := [.lit (.bool true)], args := [d1, d2, d3] }
  | _ => none }
def stripeDealsRow : OpenClaim := { program := "ytmdgmnaaopineaa", sum := "67cc1be445c542ce1bfd96125b32035bad537ee35b57b96975666f3b45a82b19", func := "tholepin/tholepinlaw19.StripeDeals", spec := "stripeDeals", recurses := true, apart := false }
def StripeDealsSaid : Prop := stripeDealsRow.holds Try.pinned (OpenSpec.ofChange stripeDealsSpec)

/-- ITS FALSE NEIGHBOUR: 'it returns false'. Refute it at one input. -/
def stripeDealsWrong : ChangeSpec := { name := "stripeDeals", fn := fun _ => fun
  | [d1, d2, d3] => { results := [.lit (.bool false)], args := [d1, d2, d3] }
  | _ => none }
def StripeDealsWrongFalsely : Prop := stripeDealsRow.holds Try.pinned (OpenSpec.ofChange stripeDealsWrong)

/-- 'tholepinlaw19.StripeShares': WHATEVER THE INPUT: true; the input reads as it did. -/
def stripeSharesSpec : ChangeSpec := { name := "stripeShares", fn := fun _ => fun
  | [d1, d2] => { results := [.lit (.bool true)], args := [d1, d2] }
  | _ => none }
def stripeSharesRow : OpenClaim := { program := "ytmdgmnaaopineaa", sum := "67cc1be445c542ce1bfd96125b32035bad537ee35b57b96975666f3b45a82b19", func := "tholepin/tholepinlaw19.StripeShares", spec := "stripeShares", unfollowed := true, recurses := true, apart := false }
def StripeSharesSaid : Prop := stripeSharesRow.holds Try.pinned (OpenSpec.ofChange stripeSharesSpec)

/-- ITS FALSE NEIGHBOUR: 'it returns false'. Refute it at one input. -/
def stripeSharesWrong : ChangeSpec := { name := "stripeShares", fn := fun _ => fun
  | [d1, d2] => { results := [.lit (.bool false)], args := [d1, d2] }
  | _ => none }
def StripeSharesWrongFalsely : Prop := stripeSharesRow.holds Try.pinned (OpenSpec.ofChange stripeSharesWrong)

/-- 'tholepinlaw21.LocateCounts': WHATEVER THE INPUT: true; the input reads as it did. -/
def locateCountsSpec : ChangeSpec := { name := "locateCounts", fn := fun _ => fun
  | [d1, d2, d3] => { results := [.lit (.bool true)], args := [d1, d2, d3] }
  | _ => none }
def locateCountsRow : OpenClaim := { program := "ytmdgmnaaopineaa", sum := "67cc1be445c542ce1bfd96125b32035bad537ee35b57b96975666f3b45a82b19", func := "tholepin/tholepinlaw21.LocateCounts", spec := "locateCounts", unfollowed := true, recurses := true, apart := false }
def LocateCountsSaid : Prop := locateCountsRow.holds Try.pinned (OpenSpec.ofChange locateCountsSpec)

/-- ITS FALSE NEIGHBOUR: 'it returns false'. Refute it at one input. -/
def locateCountsWrong : ChangeSpec := { name := "locateCounts", fn := fun _ => fun
  | [d1, d2, d3] => { results := [.lit (.bool false)], args := [d1, d2, d3] }
  | _ => none }
def LocateCountsWrongFalsely : Prop := locateCountsRow.holds Try.pinned (OpenSpec.ofChange locateCountsWrong)

/-- 'tholepinlaw20.ProjSwaps': WHATEVER THE INPUT: true; the input reads as it did. -/
def projSwapsSpec : ChangeSpec := { name := "projSwaps", fn := fun _ => fun
  | [d1, d2, d3] => { results := [.lit (.bool true)], args := [d1, d2, d3] }
  | _ => none }
def projSwapsRow : OpenClaim := { program := "ytmdgmnaaopineaa", sum := "67cc1be445c542ce1bfd96125b32035bad537ee35b57b96975666f3b45a82b19", func := "tholepin/tholepinlaw20.ProjSwaps", spec := "projSwaps", unfollowed := true, recurses := true, apart := false }
def ProjSwapsSaid : Prop := projSwapsRow.holds Try.pinned (OpenSpec.ofChange projSwapsSpec)

/-- ITS FALSE NEIGHBOUR: 'it returns false'. Refute it at one input. -/
def projSwapsWrong : ChangeSpec := { name := "projSwaps", fn := fun _ => fun
  | [d1, d2, d3] => { results := [.lit (.bool false)], args := [d1, d2, d3] }
  | _ => none }
def ProjSwapsWrongFalsely : Prop := projSwapsRow.holds Try.pinned (OpenSpec.ofChange projSwapsWrong)

/- THE SECOND FORM. 'bulk': how many values and letters a reading holds, each counted each time it is reached (what is shared counts as often as it is met; a slice's spare places count too). A statement '..UptoSaid' is the law's where the arguments, and the package variables that the reading takes, are together of bulk at most 1048576: NARROWER than '..Said'. Prove '..Said' where nothing that the law and all that it calls make is longer than what came in: it says more and counts as full. Else prove '..UptoSaid'. A law counts once. -/
mutual
def uptoBulk {H : Type} : DataW H → Nat
  | .lit (.string bytes) => bytes.length + 1
  | .lit _ => 1
  | .nil => 1
  | .ptr d => uptoBulk d + 1
  | .slice elems spare => uptoBulkAll elems + uptoBulkAll spare + 1
  | .agg parts => uptoBulkAll parts + 1
  | .iface _ d => uptoBulk d + 1
  | .map entries => uptoBulkEntries entries + 1
  | .held _ => 1
def uptoBulkAll {H : Type} : List (DataW H) → Nat
  | [] => 0
  | d :: r => uptoBulk d + uptoBulkAll r
def uptoBulkEntries {H : Type} : List (Lit × DataW H) → Nat
  | [] => 0
  | x :: r => uptoBulkEntry x + uptoBulkEntries r
def uptoBulkEntry {H : Type} : Lit × DataW H → Nat
  | (.string bytes, d) => bytes.length + uptoBulk d + 1
  | (_, d) => uptoBulk d + 1
 end
def uptoSmall : (H : Type) → List (DataW H) → Bool := fun _ ds => decide (uptoBulkAll ds ≤ 1048576)
def OpenSpec.upto (s : _root_.Go.ChangeSpec) : _root_.Go.OpenSpec := { _root_.Go.OpenSpec.ofChange s with cond := some uptoSmall }

/-- 'tholepintop.TopMoves', WHERE WHAT IT READS IS OF BULK AT MOST 1048576: true; the input reads as it did. -/
def topMovesUptoRow : OpenClaim := { program := "ytmdgmnaaopineaa", sum := "67cc1be445c542ce1bfd96125b32035bad537ee35b57b96975666f3b45a82b19", func := "tholepin/tholepintop.TopMoves", spec := "topMoves", unfollowed := true, recurses := true, apart := false, narrowed := true }
def TopMovesUptoSaid : Prop := topMovesUptoRow.holds Try.pinned (OpenSpec.upto topMovesSpec)

/-- 'tholepinlaw21.LocatePlaces', WHERE WHAT IT READS IS OF BULK AT MOST 1048576: true; the input reads as it did. -/
def locatePlacesUptoRow : OpenClaim := { program := "ytmdgmnaaopineaa", sum := "67cc1be445c542ce1bfd96125b32035bad537ee35b57b96975666f3b45a82b19", func := "tholepin/tholepinlaw21.LocatePlaces", spec := "locatePlaces", unfollowed := true, recurses := true, apart := false, narrowed := true }
def LocatePlacesUptoSaid : Prop := locatePlacesUptoRow.holds Try.pinned (OpenSpec.upto locatePlacesSpec)

/-- 'tholepinlaw21.LocatePos', WHERE WHAT IT READS IS OF BULK AT MOST 1048576: true; the input reads as it did. -/
def locatePosUptoRow : OpenClaim := { program := "ytmdgmnaaopineaa", sum := "67cc1be445c542ce1bfd96125b32035bad537ee35b57b96975666f3b45a82b19", func := "tholepin/tholepinlaw21.LocatePos", spec := "locatePos", unfollowed := true, recurses := true, apart := false, narrowed := true }
def LocatePosUptoSaid : Prop := locatePosUptoRow.holds Try.pinned (OpenSpec.upto locatePosSpec)

/-- 'tholepinlaw21.LocateMoves', WHERE WHAT IT READS IS OF BULK AT MOST 1048576: true; the input reads as it did. -/
def locateMovesUptoRow : OpenClaim := { program := "ytmdgmnaaopineaa", sum := "67cc1be445c542ce1bfd96125b32035bad537ee35b57b96975666f3b45a82b19", func := "tholepin/tholepinlaw21.LocateMoves", spec := "locateMoves", unfollowed := true, recurses := true, apart := false, narrowed := true }
def LocateMovesUptoSaid : Prop := locateMovesUptoRow.holds Try.pinned (OpenSpec.upto locateMovesSpec)

/-- 'tholepinlaw20.ProjGrows', WHERE WHAT IT READS IS OF BULK AT MOST 1048576: true; the input reads as it did. -/
def projGrowsUptoRow : OpenClaim := { program := "ytmdgmnaaopineaa", sum := "67cc1be445c542ce1bfd96125b32035bad537ee35b57b96975666f3b45a82b19", func := "tholepin/tholepinlaw20.ProjGrows", spec := "projGrows", unfollowed := true, recurses := true, apart := false, narrowed := true }
def ProjGrowsUptoSaid : Prop := projGrowsUptoRow.holds Try.pinned (OpenSpec.upto projGrowsSpec)

/-- 'tholepinlaw19.StripeReads', WHERE WHAT IT READS IS OF BULK AT MOST 1048576: true; the input reads as it did. -/
def stripeReadsUptoRow : OpenClaim := { program := "ytmdgmnaaopineaa", sum := "67cc1be445c542ce1bfd96125b32035bad537ee35b57b96975666f3b45a82b19", func := "tholepin/tholepinlaw19.StripeReads", spec := "stripeReads", recurses := true, apart := false, narrowed := true }
def StripeReadsUptoSaid : Prop := stripeReadsUptoRow.holds Try.pinned (OpenSpec.upto stripeReadsSpec)

/-- 'tholepinlaw19.StripeWrites', WHERE WHAT IT READS IS OF BULK AT MOST 1048576: true; the input reads as it did. -/
def stripeWritesUptoRow : OpenClaim := { program := "ytmdgmnaaopineaa", sum := "67cc1be445c542ce1bfd96125b32035bad537ee35b57b96975666f3b45a82b19", func := "tholepin/tholepinlaw19.StripeWrites", spec := "stripeWrites", unfollowed := true, recurses := true, apart := false, narrowed := true }
def StripeWritesUptoSaid : Prop := stripeWritesUptoRow.holds Try.pinned (OpenSpec.upto stripeWritesSpec)

/-- 'tholepinlaw20.ProjReads', WHERE WHAT IT READS IS OF BULK AT MOST 1048576: true; the input reads as it did. -/
def projReadsUptoRow : OpenClaim := { program := "ytmdgmnaaopineaa", sum := "67cc1be445c542ce1bfd96125b32035bad537ee35b57b96975666f3b45a82b19", func := "tholepin/tholepinlaw20.ProjReads", spec := "projReads", unfollowed := true, recurses := true, apart := false, narrowed := true }
def ProjReadsUptoSaid : Prop := projReadsUptoRow.holds Try.pinned (OpenSpec.upto projReadsSpec)

/-- 'tholepinlaw20.ProjWrites', WHERE WHAT IT READS IS OF BULK AT MOST 1048576: true; the input reads as it did. -/
def projWritesUptoRow : OpenClaim := { program := "ytmdgmnaaopineaa", sum := "67cc1be445c542ce1bfd96125b32035bad537ee35b57b96975666f3b45a82b19", func := "tholepin/tholepinlaw20.ProjWrites", spec := "projWrites", unfollowed := true, recurses := true, apart := false, narrowed := true }
def ProjWritesUptoSaid : Prop := projWritesUptoRow.holds Try.pinned (OpenSpec.upto projWritesSpec)

/-- 'tholepinlaw19.StripeDeals', WHERE WHAT IT READS IS OF BULK AT MOST 1048576: true; the input reads as it did. -/
def stripeDealsUptoRow : OpenClaim := { program := "ytmdgmnaaopineaa", sum := "67cc1be445c542ce1bfd96125b32035bad537ee35b57b96975666f3b45a82b19", func := "tholepin/tholepinlaw19.StripeDeals", spec := "stripeDeals", recurses := true, apart := false, narrowed := true }
def StripeDealsUptoSaid : Prop := stripeDealsUptoRow.holds Try.pinned (OpenSpec.upto stripeDealsSpec)

/-- 'tholepinlaw19.StripeShares', WHERE WHAT IT READS IS OF BULK AT MOST 1048576: true; the input reads as it did. -/
def stripeSharesUptoRow : OpenClaim := { program := "ytmdgmnaaopineaa", sum := "67cc1be445c542ce1bfd96125b32035bad537ee35b57b96975666f3b45a82b19", func := "tholepin/tholepinlaw19.StripeShares", spec := "stripeShares", unfollowed := true, recurses := true, apart := false, narrowed := true }
def StripeSharesUptoSaid : Prop := stripeSharesUptoRow.holds Try.pinned (OpenSpec.upto stripeSharesSpec)

/-- 'tholepinlaw21.LocateCounts', WHERE WHAT IT READS IS OF BULK AT MOST 1048576: true; the input reads as it did. -/
def locateCountsUptoRow : OpenClaim := { program := "ytmdgmnaaopineaa", sum := "67cc1be445c542ce1bfd96125b32035bad537ee35b57b96975666f3b45a82b19", func := "tholepin/tholepinlaw21.LocateCounts", spec := "locateCounts", unfollowed := true, recurses := true, apart := false, narrowed := true }
def LocateCountsUptoSaid : Prop := locateCountsUptoRow.holds Try.pinned (OpenSpec.upto locateCountsSpec)

/-- 'tholepinlaw20.ProjSwaps', WHERE WHAT IT READS IS OF BULK AT MOST 1048576: true; the input reads as it did. -/
def projSwapsUptoRow : OpenClaim := { program := "ytmdgmnaaopineaa", sum := "67cc1be445c542ce1bfd96125b32035bad537ee35b57b96975666f3b45a82b19", func := "tholepin/tholepinlaw20.ProjSwaps", spec := "projSwaps", unfollowed := true, recurses := true, apart := false, narrowed := true }
def ProjSwapsUptoSaid : Prop := projSwapsUptoRow.holds Try.pinned (OpenSpec.upto projSwapsSpec)

end Rows
end Go.Proofs.Ytmdgmnaaopineaa
