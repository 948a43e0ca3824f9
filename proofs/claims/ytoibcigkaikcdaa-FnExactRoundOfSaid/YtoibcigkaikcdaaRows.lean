/-
  No cell of these rows narrows 'for every input' (looked for: loops, veiled, ifaces, maps, wideKeys, modest, calm, conditions, laid).
  DERIVED. THE GIVEN ROWS OF THIS SEAT. 12 by the template 'for every input the law returns true; each argument reads behind the call as it read before'; 0 by the template 'total and deterministic' (their statements: YtoibcigkaikcdaaTotals.lean).
  GIVEN WITH THE SEED: the statements are not yours to turn. If you find one false, say at which input.
  Laid BY PROGRAM, IN A SANDBOX (cutbox-rows.mjs): the forced cells as the released guide's own fill.sh prints them over the translation afcd89c004ab5a61… (all of the seat's roots in one cut). By AI agents, Wed Nov 11 2026. No macro, syntax, notation, axiom, sorry.
-/
import Derived.Test.YtoibcigkaikcdaaChecked
import GoSem.Claim
import GoSem.ClaimJoined
import GoSem.ClaimMapViews
import Derived.JoinedTies
import Derived.KernelRfl
namespace Go.Proofs.Ytoibcigkaikcdaa
/- THE CELL 'sum', in the pinned program and in every row, IS THE sha256 OF THE DUMP (.gsa) THAT YtoibcigkaikcdaaProg.lean LOADS. Nothing in Lean hashes anything: it is a label: what it is worth is what the hold of that sum in a sandbox is worth. -/
noncomputable def Try.pinned : Pinned := { name := "ytoibcigkaikcdaa", sum := "afcd89c004ab5a61239017805cc7ddab67f7b0a7b9d4d70f4d758ca660de6927", checked := Try.checked }
namespace Rows
def none {H : Type} : Left H := { results := [], args := [] }

/-- 'laws.FnExactLotOf': WHATEVER THE INPUT: true; the input reads as it did. -/
def fnExactLotOfSpec : ChangeSpec := { name := "fnExactLotOf", fn := fun _ => fun
  | [d] => { results := [.lit (.bool true)], args := [d] }
  | _ => none }
def fnExactLotOfRow : OpenClaim := { program := "ytoibcigkaikcdaa", sum := "afcd89c004ab5a61239017805cc7ddab67f7b0a7b9d4d70f4d758ca660de6927", func := "loop.example/g00834/laws.FnExactLotOf", spec := "fnExactLotOf", apart := false }
def FnExactLotOfSaid : Prop := fnExactLotOfRow.holds Try.pinned (OpenSpec.ofChange fnExactLotOfSpec)

/-- ITS FALSE NEIGHBOUR: 'it returns false'. Refute it at one input. -/
def fnExactLotOfWrong : ChangeSpec := { name := "fnExactLotOf", fn := fun _ => fun
  | [d] => { results := [.lit (.bool false)], args := [d] }
  | _ => none }
def FnExactLotOfWrongFalsely : Prop := fnExactLotOfRow.holds Try.pinned (OpenSpec.ofChange fnExactLotOfWrong)

/-- 'laws.FnExactLotsPerResult': WHATEVER THE INPUT: true; the input reads as it did. -/
def fnExactLotsPerResultSpec : ChangeSpec := { name := "fnExactLotsPerResult", fn := fun _ => fun
  | [d] => { results := [.lit (.bool true)], args := [d] }
  | _ => none }
def fnExactLotsPerResultRow : OpenClaim := { program := "ytoibcigkaikcdaa", sum := "afcd89c004ab5a61239017805cc7ddab67f7b0a7b9d4d70f4d758ca660de6927", func := "loop.example/g00834/laws.FnExactLotsPerResult", spec := "fnExactLotsPerResult", apart := false }
def FnExactLotsPerResultSaid : Prop := fnExactLotsPerResultRow.holds Try.pinned (OpenSpec.ofChange fnExactLotsPerResultSpec)

/-- ITS FALSE NEIGHBOUR: 'it returns false'. Refute it at one input. -/
def fnExactLotsPerResultWrong : ChangeSpec := { name := "fnExactLotsPerResult", fn := fun _ => fun
  | [d] => { results := [.lit (.bool false)], args := [d] }
  | _ => none }
def FnExactLotsPerResultWrongFalsely : Prop := fnExactLotsPerResultRow.holds Try.pinned (OpenSpec.ofChange fnExactLotsPerResultWrong)

/-- 'laws.FnExactVoidLots': WHATEVER THE INPUT: true; the input reads as it did. -/
def fnExactVoidLotsSpec : ChangeSpec := { name := "fnExactVoidLots", fn := fun _ => fun
  | [d] => { results := [.lit (.bool true)], args := [d] }
  | _ => none }
def fnExactVoidLotsRow : OpenClaim := { program := "ytoibcigkaikcdaa", sum := "afcd89c004ab5a61239017805cc7ddab67f7b0a7b9d4d70f4d758ca660de6927", func := "loop.example/g00834/laws.FnExactVoidLots", spec := "fnExactVoidLots", apart := false }
def FnExactVoidLotsSaid : Prop := fnExactVoidLotsRow.holds Try.pinned (OpenSpec.ofChange fnExactVoidLotsSpec)

/-- ITS FALSE NEIGHBOUR: 'it returns false'. Refute it at one input. -/
def fnExactVoidLotsWrong : ChangeSpec := { name := "fnExactVoidLots", fn := fun _ => fun
  | [d] => { results := [.lit (.bool false)], args := [d] }
  | _ => none }
def FnExactVoidLotsWrongFalsely : Prop := fnExactVoidLotsRow.holds Try.pinned (OpenSpec.ofChange fnExactVoidLotsWrong)

/-- 'laws.FnExactLastDay': WHATEVER THE INPUT: true; the input reads as it did. -/
def fnExactLastDaySpec : ChangeSpec := { name := "fnExactLastDay", fn := fun _ => fun
  | [d] => { results := [.lit (.bool true)], args := [d] }
  | _ => none }
def fnExactLastDayRow : OpenClaim := { program := "ytoibcigkaikcdaa", sum := "afcd89c004ab5a61239017805cc7ddab67f7b0a7b9d4d70f4d758ca660de6927", func := "loop.example/g00834/laws.FnExactLastDay", spec := "fnExactLastDay", apart := false }
def FnExactLastDaySaid : Prop := fnExactLastDayRow.holds Try.pinned (OpenSpec.ofChange fnExactLastDaySpec)

/-- ITS FALSE NEIGHBOUR: 'it returns false'. Refute it at one input. -/
def fnExactLastDayWrong : ChangeSpec := { name := "fnExactLastDay", fn := fun _ => fun
  | [d] => { results := [.lit (.bool false)], args := [d] }
  | _ => none }
def FnExactLastDayWrongFalsely : Prop := fnExactLastDayRow.holds Try.pinned (OpenSpec.ofChange fnExactLastDayWrong)

/-- 'laws.FnExactLotFor': WHATEVER THE INPUT: true; the input reads as it did. -/
def fnExactLotForSpec : ChangeSpec := { name := "fnExactLotFor", fn := fun _ => fun
  | [d1, d2] => { results := [.lit (.bool true)], args := [d1, d2] }
  | _ => none }
def fnExactLotForRow : OpenClaim := { program := "ytoibcigkaikcdaa", sum := "afcd89c004ab5a61239017805cc7ddab67f7b0a7b9d4d70f4d758ca660de6927", func := "loop.example/g00834/laws.FnExactLotFor", spec := "fnExactLotFor", apart := false }
def FnExactLotForSaid : Prop := fnExactLotForRow.holds Try.pinned (OpenSpec.ofChange fnExactLotForSpec)

/-- ITS FALSE NEIGHBOUR: 'it returns false'. Refute it at one input. -/
def fnExactLotForWrong : ChangeSpec := { name := "fnExactLotFor", fn := fun _ => fun
  | [d1, d2] => { results := [.lit (.bool false)], args := [d1, d2] }
  | _ => none }
def FnExactLotForWrongFalsely : Prop := fnExactLotForRow.holds Try.pinned (OpenSpec.ofChange fnExactLotForWrong)

/-- 'laws.FnExactClosedOk': WHATEVER THE INPUT: true; the input reads as it did. -/
def fnExactClosedOkSpec : ChangeSpec := { name := "fnExactClosedOk", fn := fun _ => fun
  | [d1, d2] => { results := [.lit (.bool true)], args := [d1, d2] }
  | _ => none }
def fnExactClosedOkRow : OpenClaim := { program := "ytoibcigkaikcdaa", sum := "afcd89c004ab5a61239017805cc7ddab67f7b0a7b9d4d70f4d758ca660de6927", func := "loop.example/g00834/laws.FnExactClosedOk", spec := "fnExactClosedOk", apart := false }
def FnExactClosedOkSaid : Prop := fnExactClosedOkRow.holds Try.pinned (OpenSpec.ofChange fnExactClosedOkSpec)

/-- ITS FALSE NEIGHBOUR: 'it returns false'. Refute it at one input. -/
def fnExactClosedOkWrong : ChangeSpec := { name := "fnExactClosedOk", fn := fun _ => fun
  | [d1, d2] => { results := [.lit (.bool false)], args := [d1, d2] }
  | _ => none }
def FnExactClosedOkWrongFalsely : Prop := fnExactClosedOkRow.holds Try.pinned (OpenSpec.ofChange fnExactClosedOkWrong)

/-- 'laws.FnExactSameReason': WHATEVER THE INPUT: true; the input reads as it did. -/
def fnExactSameReasonSpec : ChangeSpec := { name := "fnExactSameReason", fn := fun _ => fun
  | [d1, d2] => { results := [.lit (.bool true)], args := [d1, d2] }
  | _ => none }
def fnExactSameReasonRow : OpenClaim := { program := "ytoibcigkaikcdaa", sum := "afcd89c004ab5a61239017805cc7ddab67f7b0a7b9d4d70f4d758ca660de6927", func := "loop.example/g00834/laws.FnExactSameReason", spec := "fnExactSameReason", apart := false }
def FnExactSameReasonSaid : Prop := fnExactSameReasonRow.holds Try.pinned (OpenSpec.ofChange fnExactSameReasonSpec)

/-- ITS FALSE NEIGHBOUR: 'it returns false'. Refute it at one input. -/
def fnExactSameReasonWrong : ChangeSpec := { name := "fnExactSameReason", fn := fun _ => fun
  | [d1, d2] => { results := [.lit (.bool false)], args := [d1, d2] }
  | _ => none }
def FnExactSameReasonWrongFalsely : Prop := fnExactSameReasonRow.holds Try.pinned (OpenSpec.ofChange fnExactSameReasonWrong)

/-- 'laws.FnExactMapOk': WHATEVER THE INPUT: true; the input reads as it did. -/
def fnExactMapOkSpec : ChangeSpec := { name := "fnExactMapOk", fn := fun _ => fun
  | [d] => { results := [.lit (.bool true)], args := [d] }
  | _ => none }
def fnExactMapOkRow : OpenClaim := { program := "ytoibcigkaikcdaa", sum := "afcd89c004ab5a61239017805cc7ddab67f7b0a7b9d4d70f4d758ca660de6927", func := "loop.example/g00834/laws.FnExactMapOk", spec := "fnExactMapOk", apart := false }
def FnExactMapOkSaid : Prop := fnExactMapOkRow.holds Try.pinned (OpenSpec.ofChange fnExactMapOkSpec)

/-- ITS FALSE NEIGHBOUR: 'it returns false'. Refute it at one input. -/
def fnExactMapOkWrong : ChangeSpec := { name := "fnExactMapOk", fn := fun _ => fun
  | [d] => { results := [.lit (.bool false)], args := [d] }
  | _ => none }
def FnExactMapOkWrongFalsely : Prop := fnExactMapOkRow.holds Try.pinned (OpenSpec.ofChange fnExactMapOkWrong)

/-- 'laws.FnExactDistanceOf': WHATEVER THE INPUT: true; the input reads as it did. -/
def fnExactDistanceOfSpec : ChangeSpec := { name := "fnExactDistanceOf", fn := fun _ => fun
  | [d1, d2, d3] => { results := [.lit (.bool true)], args := [d1, d2, d3] }
  | _ => none }
def fnExactDistanceOfRow : OpenClaim := { program := "ytoibcigkaikcdaa", sum := "afcd89c004ab5a61239017805cc7ddab67f7b0a7b9d4d70f4d758ca660de6927", func := "loop.example/g00834/laws.FnExactDistanceOf", spec := "fnExactDistanceOf", apart := false }
def FnExactDistanceOfSaid : Prop := fnExactDistanceOfRow.holds Try.pinned (OpenSpec.ofChange fnExactDistanceOfSpec)

/-- ITS FALSE NEIGHBOUR: 'it returns false'. Refute it at one input. -/
def fnExactDistanceOfWrong : ChangeSpec := { name := "fnExactDistanceOf", fn := fun _ => fun
  | [d1, d2, d3] => { results := [.lit (.bool false)], args := [d1, d2, d3] }
  | _ => none }
def FnExactDistanceOfWrongFalsely : Prop := fnExactDistanceOfRow.holds Try.pinned (OpenSpec.ofChange fnExactDistanceOfWrong)

/-- 'laws.FnExactRoundOf': WHATEVER THE INPUT: true; the input reads as it did. -/
def fnExactRoundOfSpec : ChangeSpec := { name := "fnExactRoundOf", fn := fun _ => fun
  | [d1, d2, d3] => { results := [.lit (.bool true)], args := [d1, d2, d3] }
  | _ => none }
def fnExactRoundOfRow : OpenClaim := { program := "ytoibcigkaikcdaa", sum := "afcd89c004ab5a61239017805cc7ddab67f7b0a7b9d4d70f4d758ca660de6927", func := "loop.example/g00834/laws.FnExactRoundOf", spec := "fnExactRoundOf", unfollowed := true, recurses := true, apart := false }
def FnExactRoundOfSaid : Prop := fnExactRoundOfRow.holds Try.pinned (OpenSpec.ofChange fnExactRoundOfSpec)

/-- ITS FALSE NEIGHBOUR: 'it returns false'. Refute it at one input. -/
def fnExactRoundOfWrong : ChangeSpec := { name := "fnExactRoundOf", fn := fun _ => fun
  | [d1, d2, d3] => { results := [.lit (.bool false)], args := [d1, d2, d3] }
  | _ => none }
def FnExactRoundOfWrongFalsely : Prop := fnExactRoundOfRow.holds Try.pinned (OpenSpec.ofChange fnExactRoundOfWrong)

/-- 'laws.FnExactCanPlayOn': WHATEVER THE INPUT: true; the input reads as it did. -/
def fnExactCanPlayOnSpec : ChangeSpec := { name := "fnExactCanPlayOn", fn := fun _ => fun
  | [d1, d2, d3] => { results := [.lit (.bool true)], args := [d1, d2, d3] }
  | _ => none }
def fnExactCanPlayOnRow : OpenClaim := { program := "ytoibcigkaikcdaa", sum := "afcd89c004ab5a61239017805cc7ddab67f7b0a7b9d4d70f4d758ca660de6927", func := "loop.example/g00834/laws.FnExactCanPlayOn", spec := "fnExactCanPlayOn", apart := false }
def FnExactCanPlayOnSaid : Prop := fnExactCanPlayOnRow.holds Try.pinned (OpenSpec.ofChange fnExactCanPlayOnSpec)

/-- ITS FALSE NEIGHBOUR: 'it returns false'. Refute it at one input. -/
def fnExactCanPlayOnWrong : ChangeSpec := { name := "fnExactCanPlayOn", fn := fun _ => fun
  | [d1, d2, d3] => { results := [.lit (.bool false)], args := [d1, d2, d3] }
  | _ => none }
def FnExactCanPlayOnWrongFalsely : Prop := fnExactCanPlayOnRow.holds Try.pinned (OpenSpec.ofChange fnExactCanPlayOnWrong)

/-- 'laws.FnExactCircleRounds': WHATEVER THE INPUT: true; the input reads as it did. -/
def fnExactCircleRoundsSpec : ChangeSpec := { name := "fnExactCircleRounds", fn := fun _ => fun
  | [d] => { results := [.lit (.bool true)], args := [d] }
  | _ => none }
def fnExactCircleRoundsRow : OpenClaim := { program := "ytoibcigkaikcdaa", sum := "afcd89c004ab5a61239017805cc7ddab67f7b0a7b9d4d70f4d758ca660de6927", func := "loop.example/g00834/laws.FnExactCircleRounds", spec := "fnExactCircleRounds", apart := false }
def FnExactCircleRoundsSaid : Prop := fnExactCircleRoundsRow.holds Try.pinned (OpenSpec.ofChange fnExactCircleRoundsSpec)

/-- ITS FALSE NEIGHBOUR: 'it returns false'. Refute it at one input. -/
def fnExactCircleRoundsWrong : ChangeSpec := { name := "fnExactCircleRounds", fn := fun _ => fun
  | [d] => { results := [.lit (.bool false)], args := [d] }
  | _ => none }
def FnExactCircleRoundsWrongFalsely : Prop := fnExactCircleRoundsRow.holds Try.pinned (OpenSpec.ofChange fnExactCircleRoundsWrong)

/- THE SECOND FORM. 'bulk': how many values and letters a reading holds, each counted each time it is reached (what is shared counts as often as it is met; a slice's spare places count too). A statement '..UptoSaid' is the law's where the arguments, and the package variables that the reading takes, are together of bulk at most 1048576: NARROWER than '..Said'. Prove '..Said' where nothing that the law and all that it calls make is longer than what came in: it says more and counts as full. Else prove '..UptoSaid'. A law counts once. -/
mutual
def uptoBulk {H : Type} : DataW H → Nat
  | .lit (.string bytes) => bytes.length + 1
  | .lit _ => 1
  | .nil => 1
  | .ptr d => uptoBulk d + 1
  | .slice elems spare => uptoBulkAll elems + uptoBulkAll spare + 1
  | .agg parts => uptoBulkAll parts + 1
  | .iface _ d => uptoBulk d + 1
  | .map entries => uptoBulkEntries entries + 1
  | .held _ => 1
def uptoBulkAll {H : Type} : List (DataW H) → Nat
  | [] => 0
  | d :: r => uptoBulk d + uptoBulkAll r
def uptoBulkEntries {H : Type} : List (Lit × DataW H) → Nat
  | [] => 0
  | x :: r => uptoBulkEntry x + uptoBulkEntries r
def uptoBulkEntry {H : Type} : Lit × DataW H → Nat
  | (.string bytes, d) => bytes.length + uptoBulk d + 1
  | (_, d) => uptoBulk d + 1
 end
def uptoSmall : (H : Type) → List (DataW H) → Bool := fun _ ds => decide (uptoBulkAll ds ≤ 1048576)
def OpenSpec.upto (s : _root_.Go.ChangeSpec) : _root_.Go.OpenSpec := { _root_.Go.OpenSpec.ofChange s with cond := some uptoSmall }

/-- 'laws.FnExactLotOf', WHERE WHAT IT READS IS OF BULK AT MOST 1048576: true; the input reads as it did. -/
def fnExactLotOfUptoRow : OpenClaim := { program := "ytoibcigkaikcdaa", sum := "afcd89c004ab5a61239017805cc7ddab67f7b0a7b9d4d70f4d758ca660de6927", func := "loop.example/g00834/laws.FnExactLotOf", spec := "fnExactLotOf", apart := false, narrowed := true }
def FnExactLotOfUptoSaid : Prop := fnExactLotOfUptoRow.holds Try.pinned (OpenSpec.upto fnExactLotOfSpec)

/-- 'laws.FnExactLotsPerResult', WHERE WHAT IT READS IS OF BULK AT MOST 1048576: true; the input reads as it did. -/
def fnExactLotsPerResultUptoRow : OpenClaim := { program := "ytoibcigkaikcdaa", sum := "afcd89c004ab5a61239017805cc7ddab67f7b0a7b9d4d70f4d758ca660de6927", func := "loop.example/g00834/laws.FnExactLotsPerResult", spec := "fnExactLotsPerResult", apart := false, narrowed := true }
def FnExactLotsPerResultUptoSaid : Prop := fnExactLotsPerResultUptoRow.holds Try.pinned (OpenSpec.upto fnExactLotsPerResultSpec)

/-- 'laws.FnExactVoidLots', WHERE WHAT IT READS IS OF BULK AT MOST 1048576: true; the input reads as it did. -/
def fnExactVoidLotsUptoRow : OpenClaim := { program := "ytoibcigkaikcdaa", sum := "afcd89c004ab5a61239017805cc7ddab67f7b0a7b9d4d70f4d758ca660de6927", func := "loop.example/g00834/laws.FnExactVoidLots", spec := "fnExactVoidLots", apart := false, narrowed := true }
def FnExactVoidLotsUptoSaid : Prop := fnExactVoidLotsUptoRow.holds Try.pinned (OpenSpec.upto fnExactVoidLotsSpec)

/-- 'laws.FnExactLastDay', WHERE WHAT IT READS IS OF BULK AT MOST 1048576: true; the input reads as it did. -/
def fnExactLastDayUptoRow : OpenClaim := { program := "ytoibcigkaikcdaa", sum := "afcd89c004ab5a61239017805cc7ddab67f7b0a7b9d4d70f4d758ca660de6927", func := "loop.example/g00834/laws.FnExactLastDay", spec := "fnExactLastDay", apart := false, narrowed := true }
def FnExactLastDayUptoSaid : Prop := fnExactLastDayUptoRow.holds Try.pinned (OpenSpec.upto fnExactLastDaySpec)

/-- 'laws.FnExactLotFor', WHERE WHAT IT READS IS OF BULK AT MOST 1048576: true; the input reads as it did. -/
def fnExactLotForUptoRow : OpenClaim := { program := "ytoibcigkaikcdaa", sum := "afcd89c004ab5a61239017805cc7ddab67f7b0a7b9d4d70f4d758ca660de6927", func := "loop.example/g00834/laws.FnExactLotFor", spec := "fnExactLotFor", apart := false, narrowed := true }
def FnExactLotForUptoSaid : Prop := fnExactLotForUptoRow.holds Try.pinned (OpenSpec.upto fnExactLotForSpec)

/-- 'laws.FnExactClosedOk', WHERE WHAT IT READS IS OF BULK AT MOST 1048576: true; the input reads as it did. -/
def fnExactClosedOkUptoRow : OpenClaim := { program := "ytoibcigkaikcdaa", sum := "afcd89c004ab5a61239017805cc7ddab67f7b0a7b9d4d70f4d758ca660de6927", func := "loop.example/g00834/laws.FnExactClosedOk", spec := "fnExactClosedOk", apart := false, narrowed := true }
def FnExactClosedOkUptoSaid : Prop := fnExactClosedOkUptoRow.holds Try.pinned (OpenSpec.upto fnExactClosedOkSpec)

/-- 'laws.FnExactSameReason', WHERE WHAT IT READS IS OF BULK AT MOST 1048576: true; the input reads as it did. -/
def fnExactSameReasonUptoRow : OpenClaim := { program := "ytoibcigkaikcdaa", sum := "afcd89c004ab5a61239017805cc7ddab67f7b0a7b9d4d70f4d758ca660de6927", func := "loop.example/g00834/laws.FnExactSameReason", spec := "fnExactSameReason", apart := false, narrowed := true }
def FnExactSameReasonUptoSaid : Prop := fnExactSameReasonUptoRow.holds Try.pinned (OpenSpec.upto fnExactSameReasonSpec)

/-- 'laws.FnExactMapOk', WHERE WHAT IT READS IS OF BULK AT MOST 1048576: true; the input reads as it did. -/
def fnExactMapOkUptoRow : OpenClaim := { program := "ytoibcigkaikcdaa", sum := "afcd89c004ab5a61239017805cc7ddab67f7b0a7b9d4d70f4d758ca660de6927", func := "loop.example/g00834/laws.FnExactMapOk", spec := "fnExactMapOk", apart := false, narrowed := true }
def FnExactMapOkUptoSaid : Prop := fnExactMapOkUptoRow.holds Try.pinned (OpenSpec.upto fnExactMapOkSpec)

/-- 'laws.FnExactDistanceOf', WHERE WHAT IT READS IS OF BULK AT MOST 1048576: true; the input reads as it did. -/
def fnExactDistanceOfUptoRow : OpenClaim := { program := "ytoibcigkaikcdaa", sum := "afcd89c004ab5a61239017805cc7ddab67f7b0a7b9d4d70f4d758ca660de6927", func := "loop.example/g00834/laws.FnExactDistanceOf", spec := "fnExactDistanceOf", apart := false, narrowed := true }
def FnExactDistanceOfUptoSaid : Prop := fnExactDistanceOfUptoRow.holds Try.pinned (OpenSpec.upto fnExactDistanceOfSpec)

/-- 'laws.FnExactRoundOf', WHERE WHAT IT READS IS OF BULK AT MOST 1048576: true; the input reads as it did. -/
def fnExactRoundOfUptoRow : OpenClaim := { program := "ytoibcigkaikcdaa", sum := "afcd89c004ab5a61239017805cc7ddab67f7b0a7b9d4d70f4d758ca660de6927", func := "loop.example/g00834/laws.FnExactRoundOf", spec := "fnExactRoundOf", unfollowed := true, recurses := true, apart := false, narrowed := true }
def FnExactRoundOfUptoSaid : Prop := fnExactRoundOfUptoRow.holds Try.pinned (OpenSpec.upto fnExactRoundOfSpec)

/-- 'laws.FnExactCanPlayOn', WHERE WHAT IT READS IS OF BULK AT MOST 1048576: true; the input reads as it did. -/
def fnExactCanPlayOnUptoRow : OpenClaim := { program := "ytoibcigkaikcdaa", sum := "afcd89c004ab5a61239017805cc7ddab67f7b0a7b9d4d70f4d758ca660de6927", func := "loop.example/g00834/laws.FnExactCanPlayOn", spec := "fnExactCanPlayOn", apart := false, narrowed := true }
def FnExactCanPlayOnUptoSaid : Prop := fnExactCanPlayOnUptoRow.holds Try.pinned (OpenSpec.upto fnExactCanPlayOnSpec)

/-- 'laws.FnExactCircleRounds', WHERE WHAT IT READS IS OF BULK AT MOST 1048576: true; the input reads as it did. -/
def fnExactCircleRoundsUptoRow : OpenClaim := { program := "ytoibcigkaikcdaa", sum := "afcd89c004ab5a61239017805cc7ddab67f7b0a7b9d4d70f4d758ca660de6927", func := "loop.example/g00834/laws.FnExactCircleRounds", spec := "fnExactCircleRounds", apart := false, narrowed := true }
def FnExactCircleRoundsUptoSaid : Prop := fnExactCircleRoundsUptoRow.holds Try.pinned (OpenSpec.upto fnExactCircleRoundsSpec)

end Rows
end Go.Proofs.Ytoibcigkaikcdaa
