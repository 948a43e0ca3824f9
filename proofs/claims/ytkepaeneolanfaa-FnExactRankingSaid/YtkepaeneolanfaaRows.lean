/-
  No cell of these rows narrows 'for every input' (looked for: loops, veiled, ifaces, maps, wideKeys, modest, calm, conditions, laid).
  DERIVED. THE GIVEN ROWS OF THIS SEAT. 10 by the template 'for every input the law returns true; each argument reads behind the call as it read before'; 0 by the template 'total and deterministic' (their statements: YtkepaeneolanfaaTotals.lean).
  GIVEN WITH THE SEED: the statements are not yours to turn. If you find one false, say at which input.
  Laid BY PROGRAM, IN A SANDBOX (cutbox-rows.mjs): the forced cells as the released guide's own fill.sh prints them over the translation 2a0f81a607b33c58… (all of the seat's roots in one cut). By AI agents, Wed Nov 11 2026. No macro, syntax, notation, axiom, sorry.
-/
import Derived.Test.YtkepaeneolanfaaChecked
import GoSem.Claim
import GoSem.ClaimJoined
import GoSem.ClaimMapViews
import Derived.JoinedTies
import Derived.KernelRfl
namespace Go.Proofs.Ytkepaeneolanfaa
/- THE CELL 'sum', in the pinned program and in every row, IS THE sha256 OF THE DUMP (.gsa) THAT YtkepaeneolanfaaProg.lean LOADS. Nothing in Lean hashes anything: it is a label: what it is worth is what the hold of that sum in a sandbox is worth. -/
noncomputable def Try.pinned : Pinned := { name := "ytkepaeneolanfaa", sum := "2a0f81a607b33c580e231b31e30abfc6994feccdd63764ffd85069fe0a22906d", checked := Try.checked }
namespace Rows
def none {H : Type} : Left H := { results := [], args := [] }

/-- 'laws.FnExactStandsAbove': WHATEVER THE INPUT: true; the input reads as it did. -/
def fnExactStandsAboveSpec : ChangeSpec := { name := "fnExactStandsAbove", fn := fun _ => fun
  | [d1, d2, d3] => { results := [.lit (.bool true)], args := [d1, d2, d3] }
  | _ => none }
def fnExactStandsAboveRow : OpenClaim := { program := "ytkepaeneolanfaa", sum := "2a0f81a607b33c580e231b31e30abfc6994feccdd63764ffd85069fe0a22906d", func := "loop.example/g00834/laws.FnExactStandsAbove", spec := "fnExactStandsAbove", inPlace := ["slices.overlaps[[]int]"], unfollowed := true, recurses := true, apart := false }
def FnExactStandsAboveSaid : Prop := fnExactStandsAboveRow.holds Try.pinned (OpenSpec.ofChange fnExactStandsAboveSpec)

/-- ITS FALSE NEIGHBOUR: 'it returns false'. Refute it at one input. -/
def fnExactStandsAboveWrong : ChangeSpec := { name := "fnExactStandsAbove", fn := fun _ => fun
  | [d1, d2, d3] => { results := [.lit (.bool false)], args := [d1, d2, d3] }
  | _ => none }
def FnExactStandsAboveWrongFalsely : Prop := fnExactStandsAboveRow.holds Try.pinned (OpenSpec.ofChange fnExactStandsAboveWrong)

/-- 'laws.FnExactRankOf': WHATEVER THE INPUT: true; the input reads as it did. -/
def fnExactRankOfSpec : ChangeSpec := { name := "fnExactRankOf", fn := fun _ => fun
  | [d1, d2] => { results := [.lit (.bool true)], args := [d1, d2] }
  | _ => none }
def fnExactRankOfRow : OpenClaim := { program := "ytkepaeneolanfaa", sum := "2a0f81a607b33c580e231b31e30abfc6994feccdd63764ffd85069fe0a22906d", func := "loop.example/g00834/laws.FnExactRankOf", spec := "fnExactRankOf", inPlace := ["slices.overlaps[[]int]"], unfollowed := true, recurses := true, apart := false }
def FnExactRankOfSaid : Prop := fnExactRankOfRow.holds Try.pinned (OpenSpec.ofChange fnExactRankOfSpec)

/-- ITS FALSE NEIGHBOUR: 'it returns false'. Refute it at one input. -/
def fnExactRankOfWrong : ChangeSpec := { name := "fnExactRankOf", fn := fun _ => fun
  | [d1, d2] => { results := [.lit (.bool false)], args := [d1, d2] }
  | _ => none }
def FnExactRankOfWrongFalsely : Prop := fnExactRankOfRow.holds Try.pinned (OpenSpec.ofChange fnExactRankOfWrong)

/-- 'laws.FnExactSplitBy': WHATEVER THE INPUT: true; the input reads as it did. -/
def fnExactSplitBySpec : ChangeSpec := { name := "fnExactSplitBy", fn := fun _ => fun
  | [d1, d2, d3] => { results := [.lit (.bool true)], args := [d1, d2, d3] }
  | _ => none }
def fnExactSplitByRow : OpenClaim := { program := "ytkepaeneolanfaa", sum := "2a0f81a607b33c580e231b31e30abfc6994feccdd63764ffd85069fe0a22906d", func := "loop.example/g00834/laws.FnExactSplitBy", spec := "fnExactSplitBy", inPlace := ["slices.overlaps[[]int]"], unfollowed := true, recurses := true, apart := false }
def FnExactSplitBySaid : Prop := fnExactSplitByRow.holds Try.pinned (OpenSpec.ofChange fnExactSplitBySpec)

/-- ITS FALSE NEIGHBOUR: 'it returns false'. Refute it at one input. -/
def fnExactSplitByWrong : ChangeSpec := { name := "fnExactSplitBy", fn := fun _ => fun
  | [d1, d2, d3] => { results := [.lit (.bool false)], args := [d1, d2, d3] }
  | _ => none }
def FnExactSplitByWrongFalsely : Prop := fnExactSplitByRow.holds Try.pinned (OpenSpec.ofChange fnExactSplitByWrong)

/-- 'laws.FnExactStepsOf': WHATEVER THE INPUT: true; the input reads as it did. -/
def fnExactStepsOfSpec : ChangeSpec := { name := "fnExactStepsOf", fn := fun _ => fun
  | [d1, d2] => { results := [.lit (.bool true)], args := [d1, d2] }
  | _ => none }
def fnExactStepsOfRow : OpenClaim := { program := "ytkepaeneolanfaa", sum := "2a0f81a607b33c580e231b31e30abfc6994feccdd63764ffd85069fe0a22906d", func := "loop.example/g00834/laws.FnExactStepsOf", spec := "fnExactStepsOf", inPlace := ["slices.overlaps[[]int]"], unfollowed := true, recurses := true, apart := false }
def FnExactStepsOfSaid : Prop := fnExactStepsOfRow.holds Try.pinned (OpenSpec.ofChange fnExactStepsOfSpec)

/-- ITS FALSE NEIGHBOUR: 'it returns false'. Refute it at one input. -/
def fnExactStepsOfWrong : ChangeSpec := { name := "fnExactStepsOf", fn := fun _ => fun
  | [d1, d2] => { results := [.lit (.bool false)], args := [d1, d2] }
  | _ => none }
def FnExactStepsOfWrongFalsely : Prop := fnExactStepsOfRow.holds Try.pinned (OpenSpec.ofChange fnExactStepsOfWrong)

/-- 'laws.FnExactRankFrom': WHATEVER THE INPUT: true; the input reads as it did. -/
def fnExactRankFromSpec : ChangeSpec := { name := "fnExactRankFrom", fn := fun _ => fun
  | [d1, d2, d3] => { results := [.lit (.bool true)], args := [d1, d2, d3] }
  | _ => none }
def fnExactRankFromRow : OpenClaim := { program := "ytkepaeneolanfaa", sum := "2a0f81a607b33c580e231b31e30abfc6994feccdd63764ffd85069fe0a22906d", func := "loop.example/g00834/laws.FnExactRankFrom", spec := "fnExactRankFrom", inPlace := ["slices.overlaps[[]int]"], unfollowed := true, recurses := true, apart := false }
def FnExactRankFromSaid : Prop := fnExactRankFromRow.holds Try.pinned (OpenSpec.ofChange fnExactRankFromSpec)

/-- ITS FALSE NEIGHBOUR: 'it returns false'. Refute it at one input. -/
def fnExactRankFromWrong : ChangeSpec := { name := "fnExactRankFrom", fn := fun _ => fun
  | [d1, d2, d3] => { results := [.lit (.bool false)], args := [d1, d2, d3] }
  | _ => none }
def FnExactRankFromWrongFalsely : Prop := fnExactRankFromRow.holds Try.pinned (OpenSpec.ofChange fnExactRankFromWrong)

/-- 'laws.FnExactReasonFor': WHATEVER THE INPUT: true; the input reads as it did. -/
def fnExactReasonForSpec : ChangeSpec := { name := "fnExactReasonFor", fn := fun _ => fun
  | [d1, d2, d3] => { results := [.lit (.bool true)], args := [d1, d2, d3] }
  | _ => none }
def fnExactReasonForRow : OpenClaim := { program := "ytkepaeneolanfaa", sum := "2a0f81a607b33c580e231b31e30abfc6994feccdd63764ffd85069fe0a22906d", func := "loop.example/g00834/laws.FnExactReasonFor", spec := "fnExactReasonFor", inPlace := ["slices.overlaps[[]int]"], unfollowed := true, recurses := true, apart := false }
def FnExactReasonForSaid : Prop := fnExactReasonForRow.holds Try.pinned (OpenSpec.ofChange fnExactReasonForSpec)

/-- ITS FALSE NEIGHBOUR: 'it returns false'. Refute it at one input. -/
def fnExactReasonForWrong : ChangeSpec := { name := "fnExactReasonFor", fn := fun _ => fun
  | [d1, d2, d3] => { results := [.lit (.bool false)], args := [d1, d2, d3] }
  | _ => none }
def FnExactReasonForWrongFalsely : Prop := fnExactReasonForRow.holds Try.pinned (OpenSpec.ofChange fnExactReasonForWrong)

/-- 'laws.FnExactRanking': WHATEVER THE INPUT: true; the input reads as it did. -/
def fnExactRankingSpec : ChangeSpec := { name := "fnExactRanking", fn := fun _ => fun
  | [d] => { results := [.lit (.bool true)], args := [d] }
  | _ => none }
def fnExactRankingRow : OpenClaim := { program := "ytkepaeneolanfaa", sum := "2a0f81a607b33c580e231b31e30abfc6994feccdd63764ffd85069fe0a22906d", func := "loop.example/g00834/laws.FnExactRanking", spec := "fnExactRanking", inPlace := ["slices.overlaps[[]int]"], unfollowed := true, recurses := true, apart := false }
def FnExactRankingSaid : Prop := fnExactRankingRow.holds Try.pinned (OpenSpec.ofChange fnExactRankingSpec)

/-- ITS FALSE NEIGHBOUR: 'it returns false'. Refute it at one input. -/
def fnExactRankingWrong : ChangeSpec := { name := "fnExactRanking", fn := fun _ => fun
  | [d] => { results := [.lit (.bool false)], args := [d] }
  | _ => none }
def FnExactRankingWrongFalsely : Prop := fnExactRankingRow.holds Try.pinned (OpenSpec.ofChange fnExactRankingWrong)

/-- 'laws.FnExactRankGroups': WHATEVER THE INPUT: true; the input reads as it did. -/
def fnExactRankGroupsSpec : ChangeSpec := { name := "fnExactRankGroups", fn := fun _ => fun
  | [d] => { results := [.lit (.bool true)], args := [d] }
  | _ => none }
def fnExactRankGroupsRow : OpenClaim := { program := "ytkepaeneolanfaa", sum := "2a0f81a607b33c580e231b31e30abfc6994feccdd63764ffd85069fe0a22906d", func := "loop.example/g00834/laws.FnExactRankGroups", spec := "fnExactRankGroups", inPlace := ["slices.overlaps[[]int]"], unfollowed := true, recurses := true, apart := false }
def FnExactRankGroupsSaid : Prop := fnExactRankGroupsRow.holds Try.pinned (OpenSpec.ofChange fnExactRankGroupsSpec)

/-- ITS FALSE NEIGHBOUR: 'it returns false'. Refute it at one input. -/
def fnExactRankGroupsWrong : ChangeSpec := { name := "fnExactRankGroups", fn := fun _ => fun
  | [d] => { results := [.lit (.bool false)], args := [d] }
  | _ => none }
def FnExactRankGroupsWrongFalsely : Prop := fnExactRankGroupsRow.holds Try.pinned (OpenSpec.ofChange fnExactRankGroupsWrong)

/-- 'laws.FnRanked': WHATEVER THE INPUT: true; the input reads as it did. -/
def fnRankedSpec : ChangeSpec := { name := "fnRanked", fn := fun _ => fun
  | [d] => { results := [.lit (.bool true)], args := [d] }
  | _ => none }
def fnRankedRow : OpenClaim := { program := "ytkepaeneolanfaa", sum := "2a0f81a607b33c580e231b31e30abfc6994feccdd63764ffd85069fe0a22906d", func := "loop.example/g00834/laws.FnRanked", spec := "fnRanked", inPlace := ["slices.overlaps[[]int]"], unfollowed := true, recurses := true, apart := false }
def FnRankedSaid : Prop := fnRankedRow.holds Try.pinned (OpenSpec.ofChange fnRankedSpec)

/-- ITS FALSE NEIGHBOUR: 'it returns false'. Refute it at one input. -/
def fnRankedWrong : ChangeSpec := { name := "fnRanked", fn := fun _ => fun
  | [d] => { results := [.lit (.bool false)], args := [d] }
  | _ => none }
def FnRankedWrongFalsely : Prop := fnRankedRow.holds Try.pinned (OpenSpec.ofChange fnRankedWrong)

/-- 'laws.FnSplits': WHATEVER THE INPUT: true; the input reads as it did. -/
def fnSplitsSpec : ChangeSpec := { name := "fnSplits", fn := fun _ => fun
  | [d] => { results := [.lit (.bool true)], args := [d] }
  | _ => none }
def fnSplitsRow : OpenClaim := { program := "ytkepaeneolanfaa", sum := "2a0f81a607b33c580e231b31e30abfc6994feccdd63764ffd85069fe0a22906d", func := "loop.example/g00834/laws.FnSplits", spec := "fnSplits", inPlace := ["slices.overlaps[[]int]"], unfollowed := true, recurses := true, apart := false }
def FnSplitsSaid : Prop := fnSplitsRow.holds Try.pinned (OpenSpec.ofChange fnSplitsSpec)

/-- ITS FALSE NEIGHBOUR: 'it returns false'. Refute it at one input. -/
def fnSplitsWrong : ChangeSpec := { name := "fnSplits", fn := fun _ => fun
  | [d] => { results := [.lit (.bool false)], args := [d] }
  | _ => none }
def FnSplitsWrongFalsely : Prop := fnSplitsRow.holds Try.pinned (OpenSpec.ofChange fnSplitsWrong)

/- THE SECOND FORM. 'bulk': how many values and letters a reading holds, each counted each time it is reached (what is shared counts as often as it is met; a slice's spare places count too). A statement '..UptoSaid' is the law's where the arguments, and the package variables that the reading takes, are together of bulk at most 1048576: NARROWER than '..Said'. Prove '..Said' where nothing that the law and all that it calls make is longer than what came in: it says more and counts as full. Else prove '..UptoSaid'. A law counts once. -/
mutual
def uptoBulk {H : Type} : DataW H → Nat
  | .lit (.string bytes) => bytes.length + 1
  | .lit _ => 1
  | .nil => 1
  | .ptr d => uptoBulk d + 1
  | .slice elems spare => uptoBulkAll elems + uptoBulkAll spare + 1
  | .agg parts => uptoBulkAll parts + 1
  | .iface _ d => uptoBulk d + 1
  | .map entries => uptoBulkEntries entries + 1
  | .held _ => 1
def uptoBulkAll {H : Type} : List (DataW H) → Nat
  | [] => 0
  | d :: r => uptoBulk d + uptoBulkAll r
def uptoBulkEntries {H : Type} : List (Lit × DataW H) → Nat
  | [] => 0
  | x :: r => uptoBulkEntry x + uptoBulkEntries r
def uptoBulkEntry {H : Type} : Lit × DataW H → Nat
  | (.string bytes, d) => bytes.length + uptoBulk d + 1
  | (_, d) => uptoBulk d + 1
 end
def uptoSmall : (H : Type) → List (DataW H) → Bool := fun _ ds => decide (uptoBulkAll ds ≤ 1048576)
def OpenSpec.upto (s : _root_.Go.ChangeSpec) : _root_.Go.OpenSpec := { _root_.Go.OpenSpec.ofChange s with cond := some uptoSmall }

/-- 'laws.FnExactStandsAbove', WHERE WHAT IT READS IS OF BULK AT MOST 1048576: true; the input reads as it did. -/
def fnExactStandsAboveUptoRow : OpenClaim := { program := "ytkepaeneolanfaa", sum := "2a0f81a607b33c580e231b31e30abfc6994feccdd63764ffd85069fe0a22906d", func := "loop.example/g00834/laws.FnExactStandsAbove", spec := "fnExactStandsAbove", inPlace := ["slices.overlaps[[]int]"], unfollowed := true, recurses := true, apart := false, narrowed := true }
def FnExactStandsAboveUptoSaid : Prop := fnExactStandsAboveUptoRow.holds Try.pinned (OpenSpec.upto fnExactStandsAboveSpec)

/-- 'laws.FnExactRankOf', WHERE WHAT IT READS IS OF BULK AT MOST 1048576: true; the input reads as it did. -/
def fnExactRankOfUptoRow : OpenClaim := { program := "ytkepaeneolanfaa", sum := "2a0f81a607b33c580e231b31e30abfc6994feccdd63764ffd85069fe0a22906d", func := "loop.example/g00834/laws.FnExactRankOf", spec := "fnExactRankOf", inPlace := ["slices.overlaps[[]int]"], unfollowed := true, recurses := true, apart := false, narrowed := true }
def FnExactRankOfUptoSaid : Prop := fnExactRankOfUptoRow.holds Try.pinned (OpenSpec.upto fnExactRankOfSpec)

/-- 'laws.FnExactSplitBy', WHERE WHAT IT READS IS OF BULK AT MOST 1048576: true; the input reads as it did. -/
def fnExactSplitByUptoRow : OpenClaim := { program := "ytkepaeneolanfaa", sum := "2a0f81a607b33c580e231b31e30abfc6994feccdd63764ffd85069fe0a22906d", func := "loop.example/g00834/laws.FnExactSplitBy", spec := "fnExactSplitBy", inPlace := ["slices.overlaps[[]int]"], unfollowed := true, recurses := true, apart := false, narrowed := true }
def FnExactSplitByUptoSaid : Prop := fnExactSplitByUptoRow.holds Try.pinned (OpenSpec.upto fnExactSplitBySpec)

/-- 'laws.FnExactStepsOf', WHERE WHAT IT READS IS OF BULK AT MOST 1048576: true; the input reads as it did. -/
def fnExactStepsOfUptoRow : OpenClaim := { program := "ytkepaeneolanfaa", sum := "2a0f81a607b33c580e231b31e30abfc6994feccdd63764ffd85069fe0a22906d", func := "loop.example/g00834/laws.FnExactStepsOf", spec := "fnExactStepsOf", inPlace := ["slices.overlaps[[]int]"], unfollowed := true, recurses := true, apart := false, narrowed := true }
def FnExactStepsOfUptoSaid : Prop := fnExactStepsOfUptoRow.holds Try.pinned (OpenSpec.upto fnExactStepsOfSpec)

/-- 'laws.FnExactRankFrom', WHERE WHAT IT READS IS OF BULK AT MOST 1048576: true; the input reads as it did. -/
def fnExactRankFromUptoRow : OpenClaim := { program := "ytkepaeneolanfaa", sum := "2a0f81a607b33c580e231b31e30abfc6994feccdd63764ffd85069fe0a22906d", func := "loop.example/g00834/laws.FnExactRankFrom", spec := "fnExactRankFrom", inPlace := ["slices.overlaps[[]int]"], unfollowed := true, recurses := true, apart := false, narrowed := true }
def FnExactRankFromUptoSaid : Prop := fnExactRankFromUptoRow.holds Try.pinned (OpenSpec.upto fnExactRankFromSpec)

/-- 'laws.FnExactReasonFor', WHERE WHAT IT READS IS OF BULK AT MOST 1048576: true; the input reads as it did. -/
def fnExactReasonForUptoRow : OpenClaim := { program := "ytkepaeneolanfaa", sum := "2a0f81a607b33c580e231b31e30abfc6994feccdd63764ffd85069fe0a22906d", func := "loop.example/g00834/laws.FnExactReasonFor", spec := "fnExactReasonFor", inPlace := ["slices.overlaps[[]int]"], unfollowed := true, recurses := true, apart := false, narrowed := true }
def FnExactReasonForUptoSaid : Prop := fnExactReasonForUptoRow.holds Try.pinned (OpenSpec.upto fnExactReasonForSpec)

/-- 'laws.FnExactRanking', WHERE WHAT IT READS IS OF BULK AT MOST 1048576: true; the input reads as it did. -/
def fnExactRankingUptoRow : OpenClaim := { program := "ytkepaeneolanfaa", sum := "2a0f81a607b33c580e231b31e30abfc6994feccdd63764ffd85069fe0a22906d", func := "loop.example/g00834/laws.FnExactRanking", spec := "fnExactRanking", inPlace := ["slices.overlaps[[]int]"], unfollowed := true, recurses := true, apart := false, narrowed := true }
def FnExactRankingUptoSaid : Prop := fnExactRankingUptoRow.holds Try.pinned (OpenSpec.upto fnExactRankingSpec)

/-- 'laws.FnExactRankGroups', WHERE WHAT IT READS IS OF BULK AT MOST 1048576: true; the input reads as it did. -/
def fnExactRankGroupsUptoRow : OpenClaim := { program := "ytkepaeneolanfaa", sum := "2a0f81a607b33c580e231b31e30abfc6994feccdd63764ffd85069fe0a22906d", func := "loop.example/g00834/laws.FnExactRankGroups", spec := "fnExactRankGroups", inPlace := ["slices.overlaps[[]int]"], unfollowed := true, recurses := true, apart := false, narrowed := true }
def FnExactRankGroupsUptoSaid : Prop := fnExactRankGroupsUptoRow.holds Try.pinned (OpenSpec.upto fnExactRankGroupsSpec)

/-- 'laws.FnRanked', WHERE WHAT IT READS IS OF BULK AT MOST 1048576: true; the input reads as it did. -/
def fnRankedUptoRow : OpenClaim := { program := "ytkepaeneolanfaa", sum := "2a0f81a607b33c580e231b31e30abfc6994feccdd63764ffd85069fe0a22906d", func := "loop.example/g00834/laws.FnRanked", spec := "fnRanked", inPlace := ["slices.overlaps[[]int]"], unfollowed := true, recurses := true, apart := false, narrowed := true }
def FnRankedUptoSaid : Prop := fnRankedUptoRow.holds Try.pinned (OpenSpec.upto fnRankedSpec)

/-- 'laws.FnSplits', WHERE WHAT IT READS IS OF BULK AT MOST 1048576: true; the input reads as it did. -/
def fnSplitsUptoRow : OpenClaim := { program := "ytkepaeneolanfaa", sum := "2a0f81a607b33c580e231b31e30abfc6994feccdd63764ffd85069fe0a22906d", func := "loop.example/g00834/laws.FnSplits", spec := "fnSplits", inPlace := ["slices.overlaps[[]int]"], unfollowed := true, recurses := true, apart := false, narrowed := true }
def FnSplitsUptoSaid : Prop := fnSplitsUptoRow.holds Try.pinned (OpenSpec.upto fnSplitsSpec)

end Rows
end Go.Proofs.Ytkepaeneolanfaa
