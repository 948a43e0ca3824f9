/-
  No cell of these rows narrows 'for every input' (looked for: loops, veiled, ifaces, maps, wideKeys, modest, calm, conditions, laid).
  DERIVED. THE GIVEN ROWS OF THIS SEAT. 12 by the template 'for every input the law returns true; each argument reads behind the call as it read before'; 0 by the template 'total and deterministic' (their statements: YtcgjanadongffaaTotals.lean).
  GIVEN WITH THE SEED: the statements are not yours to turn. If you find one false, say at which input.
  Laid BY PROGRAM, IN A SANDBOX (cutbox-rows.mjs): the forced cells as the released guide's own fill.sh prints them over the translation db08aef1c8f9fa7c… (all of the seat's roots in one cut). By AI agents, Wed Nov 11 2026. No macro, syntax, notation, axiom, sorry.
-/
import Derived.Test.YtcgjanadongffaaChecked
import GoSem.Claim
import GoSem.ClaimJoined
import GoSem.ClaimMapViews
import Derived.JoinedTies
import Derived.KernelRfl
namespace Go.Proofs.Ytcgjanadongffaa
/- THE CELL 'sum', in the pinned program and in every row, IS THE sha256 OF THE DUMP (.gsa) THAT YtcgjanadongffaaProg.lean LOADS. Nothing in Lean hashes anything: it is a label: what it is worth is what the hold of that sum in a sandbox is worth. -/
noncomputable def Try.pinned : Pinned := { name := "ytcgjanadongffaa", sum := "db08aef1c8f9fa7c30018426983af9f8aadafb1dac06eb988ee8c57abf574426", checked := Try.checked }
namespace Rows
def none {H : Type} : Left H := { results := [], args := [] }

/-- 'laws.FnExactIsSchedule': WHATEVER THE INPUT: true; the input reads as it did. -/
def fnExactIsScheduleSpec : ChangeSpec := { name := "fnExactIsSchedule", fn := fun _ => fun
  | [d1, d2] => { results := [.lit (.bool true)], args := [d1, d2] }
  | _ => none }
def fnExactIsScheduleRow : OpenClaim := { program := "ytcgjanadongffaa", sum := "db08aef1c8f9fa7c30018426983af9f8aadafb1dac06eb988ee8c57abf574426", func := "loop.example/g00834/laws.FnExactIsSchedule", spec := "fnExactIsSchedule", apart := false }
def FnExactIsScheduleSaid : Prop := fnExactIsScheduleRow.holds Try.pinned (OpenSpec.ofChange fnExactIsScheduleSpec)

/-- ITS FALSE NEIGHBOUR: 'it returns false'. Refute it at one input. -/
def fnExactIsScheduleWrong : ChangeSpec := { name := "fnExactIsSchedule", fn := fun _ => fun
  | [d1, d2] => { results := [.lit (.bool false)], args := [d1, d2] }
  | _ => none }
def FnExactIsScheduleWrongFalsely : Prop := fnExactIsScheduleRow.holds Try.pinned (OpenSpec.ofChange fnExactIsScheduleWrong)

/-- 'laws.FnExactBreaksOf': WHATEVER THE INPUT: true; the input reads as it did. -/
def fnExactBreaksOfSpec : ChangeSpec := { name := "fnExactBreaksOf", fn := fun _ => fun
  | [d1, d2] => { results := [.lit (.bool true)], args := [d1, d2] }
  | _ => none }
def fnExactBreaksOfRow : OpenClaim := { program := "ytcgjanadongffaa", sum := "db08aef1c8f9fa7c30018426983af9f8aadafb1dac06eb988ee8c57abf574426", func := "loop.example/g00834/laws.FnExactBreaksOf", spec := "fnExactBreaksOf", apart := false }
def FnExactBreaksOfSaid : Prop := fnExactBreaksOfRow.holds Try.pinned (OpenSpec.ofChange fnExactBreaksOfSpec)

/-- ITS FALSE NEIGHBOUR: 'it returns false'. Refute it at one input. -/
def fnExactBreaksOfWrong : ChangeSpec := { name := "fnExactBreaksOf", fn := fun _ => fun
  | [d1, d2] => { results := [.lit (.bool false)], args := [d1, d2] }
  | _ => none }
def FnExactBreaksOfWrongFalsely : Prop := fnExactBreaksOfRow.holds Try.pinned (OpenSpec.ofChange fnExactBreaksOfWrong)

/-- 'laws.FnExactMirrorRounds': WHATEVER THE INPUT: true; the input reads as it did. -/
def fnExactMirrorRoundsSpec : ChangeSpec := { name := "fnExactMirrorRounds", fn := fun _ => fun
  | [d] => { results := [.lit (.bool true)], args := [d] }
  | _ => none }
def fnExactMirrorRoundsRow : OpenClaim := { program := "ytcgjanadongffaa", sum := "db08aef1c8f9fa7c30018426983af9f8aadafb1dac06eb988ee8c57abf574426", func := "loop.example/g00834/laws.FnExactMirrorRounds", spec := "fnExactMirrorRounds", apart := false }
def FnExactMirrorRoundsSaid : Prop := fnExactMirrorRoundsRow.holds Try.pinned (OpenSpec.ofChange fnExactMirrorRoundsSpec)

/-- ITS FALSE NEIGHBOUR: 'it returns false'. Refute it at one input. -/
def fnExactMirrorRoundsWrong : ChangeSpec := { name := "fnExactMirrorRounds", fn := fun _ => fun
  | [d] => { results := [.lit (.bool false)], args := [d] }
  | _ => none }
def FnExactMirrorRoundsWrongFalsely : Prop := fnExactMirrorRoundsRow.holds Try.pinned (OpenSpec.ofChange fnExactMirrorRoundsWrong)

/-- 'laws.FnExactVenuesOf': WHATEVER THE INPUT: true; the input reads as it did. -/
def fnExactVenuesOfSpec : ChangeSpec := { name := "fnExactVenuesOf", fn := fun _ => fun
  | [d1, d2] => { results := [.lit (.bool true)], args := [d1, d2] }
  | _ => none }
def fnExactVenuesOfRow : OpenClaim := { program := "ytcgjanadongffaa", sum := "db08aef1c8f9fa7c30018426983af9f8aadafb1dac06eb988ee8c57abf574426", func := "loop.example/g00834/laws.FnExactVenuesOf", spec := "fnExactVenuesOf", apart := false }
def FnExactVenuesOfSaid : Prop := fnExactVenuesOfRow.holds Try.pinned (OpenSpec.ofChange fnExactVenuesOfSpec)

/-- ITS FALSE NEIGHBOUR: 'it returns false'. Refute it at one input. -/
def fnExactVenuesOfWrong : ChangeSpec := { name := "fnExactVenuesOf", fn := fun _ => fun
  | [d1, d2] => { results := [.lit (.bool false)], args := [d1, d2] }
  | _ => none }
def FnExactVenuesOfWrongFalsely : Prop := fnExactVenuesOfRow.holds Try.pinned (OpenSpec.ofChange fnExactVenuesOfWrong)

/-- 'laws.FnExactGroupOf': WHATEVER THE INPUT: true; the input reads as it did. -/
def fnExactGroupOfSpec : ChangeSpec := { name := "fnExactGroupOf", fn := fun _ => fun
  | [d1, d2, d3] => { results := [.lit (.bool true)], args := [d1, d2, d3] }
  | _ => none }
def fnExactGroupOfRow : OpenClaim := { program := "ytcgjanadongffaa", sum := "db08aef1c8f9fa7c30018426983af9f8aadafb1dac06eb988ee8c57abf574426", func := "loop.example/g00834/laws.FnExactGroupOf", spec := "fnExactGroupOf", apart := false }
def FnExactGroupOfSaid : Prop := fnExactGroupOfRow.holds Try.pinned (OpenSpec.ofChange fnExactGroupOfSpec)

/-- ITS FALSE NEIGHBOUR: 'it returns false'. Refute it at one input. -/
def fnExactGroupOfWrong : ChangeSpec := { name := "fnExactGroupOf", fn := fun _ => fun
  | [d1, d2, d3] => { results := [.lit (.bool false)], args := [d1, d2, d3] }
  | _ => none }
def FnExactGroupOfWrongFalsely : Prop := fnExactGroupOfRow.holds Try.pinned (OpenSpec.ofChange fnExactGroupOfWrong)

/-- 'laws.FnExactIsRoundRobin': WHATEVER THE INPUT: true; the input reads as it did. -/
def fnExactIsRoundRobinSpec : ChangeSpec := { name := "fnExactIsRoundRobin", fn := fun _ => fun
  | [d1, d2, d3] => { results := [.lit (.bool true)], args := [d1, d2, d3] }
  | _ => none }
def fnExactIsRoundRobinRow : OpenClaim := { program := "ytcgjanadongffaa", sum := "db08aef1c8f9fa7c30018426983af9f8aadafb1dac06eb988ee8c57abf574426", func := "loop.example/g00834/laws.FnExactIsRoundRobin", spec := "fnExactIsRoundRobin", apart := false }
def FnExactIsRoundRobinSaid : Prop := fnExactIsRoundRobinRow.holds Try.pinned (OpenSpec.ofChange fnExactIsRoundRobinSpec)

/-- ITS FALSE NEIGHBOUR: 'it returns false'. Refute it at one input. -/
def fnExactIsRoundRobinWrong : ChangeSpec := { name := "fnExactIsRoundRobin", fn := fun _ => fun
  | [d1, d2, d3] => { results := [.lit (.bool false)], args := [d1, d2, d3] }
  | _ => none }
def FnExactIsRoundRobinWrongFalsely : Prop := fnExactIsRoundRobinRow.holds Try.pinned (OpenSpec.ofChange fnExactIsRoundRobinWrong)

/-- 'laws.FnExactGamesFrom': WHATEVER THE INPUT: true; the input reads as it did. -/
def fnExactGamesFromSpec : ChangeSpec := { name := "fnExactGamesFrom", fn := fun _ => fun
  | [d] => { results := [.lit (.bool true)], args := [d] }
  | _ => none }
def fnExactGamesFromRow : OpenClaim := { program := "ytcgjanadongffaa", sum := "db08aef1c8f9fa7c30018426983af9f8aadafb1dac06eb988ee8c57abf574426", func := "loop.example/g00834/laws.FnExactGamesFrom", spec := "fnExactGamesFrom", apart := false }
def FnExactGamesFromSaid : Prop := fnExactGamesFromRow.holds Try.pinned (OpenSpec.ofChange fnExactGamesFromSpec)

/-- ITS FALSE NEIGHBOUR: 'it returns false'. Refute it at one input. -/
def fnExactGamesFromWrong : ChangeSpec := { name := "fnExactGamesFrom", fn := fun _ => fun
  | [d] => { results := [.lit (.bool false)], args := [d] }
  | _ => none }
def FnExactGamesFromWrongFalsely : Prop := fnExactGamesFromRow.holds Try.pinned (OpenSpec.ofChange fnExactGamesFromWrong)

/-- 'laws.FnExactTotalBreaks': WHATEVER THE INPUT: true; the input reads as it did. -/
def fnExactTotalBreaksSpec : ChangeSpec := { name := "fnExactTotalBreaks", fn := fun _ => fun
  | [d1, d2] => { results := [.lit (.bool true)], args := [d1, d2] }
  | _ => none }
def fnExactTotalBreaksRow : OpenClaim := { program := "ytcgjanadongffaa", sum := "db08aef1c8f9fa7c30018426983af9f8aadafb1dac06eb988ee8c57abf574426", func := "loop.example/g00834/laws.FnExactTotalBreaks", spec := "fnExactTotalBreaks", apart := false }
def FnExactTotalBreaksSaid : Prop := fnExactTotalBreaksRow.holds Try.pinned (OpenSpec.ofChange fnExactTotalBreaksSpec)

/-- ITS FALSE NEIGHBOUR: 'it returns false'. Refute it at one input. -/
def fnExactTotalBreaksWrong : ChangeSpec := { name := "fnExactTotalBreaks", fn := fun _ => fun
  | [d1, d2] => { results := [.lit (.bool false)], args := [d1, d2] }
  | _ => none }
def FnExactTotalBreaksWrongFalsely : Prop := fnExactTotalBreaksRow.holds Try.pinned (OpenSpec.ofChange fnExactTotalBreaksWrong)

/-- 'laws.FnRounds': WHATEVER THE INPUT: true; the input reads as it did. -/
def fnRoundsSpec : ChangeSpec := { name := "fnRounds", fn := fun _ => fun
  | [d] => { results := [.lit (.bool true)], args := [d] }
  | _ => none }
def fnRoundsRow : OpenClaim := { program := "ytcgjanadongffaa", sum := "db08aef1c8f9fa7c30018426983af9f8aadafb1dac06eb988ee8c57abf574426", func := "loop.example/g00834/laws.FnRounds", spec := "fnRounds", unfollowed := true, recurses := true, apart := false }
def FnRoundsSaid : Prop := fnRoundsRow.holds Try.pinned (OpenSpec.ofChange fnRoundsSpec)

/-- ITS FALSE NEIGHBOUR: 'it returns false'. Refute it at one input. -/
def fnRoundsWrong : ChangeSpec := { name := "fnRounds", fn := fun _ => fun
  | [d] => { results := [.lit (.bool false)], args := [d] }
  | _ => none }
def FnRoundsWrongFalsely : Prop := fnRoundsRow.holds Try.pinned (OpenSpec.ofChange fnRoundsWrong)

/-- 'laws.FnExactTripOf': WHATEVER THE INPUT: true; the input reads as it did. -/
def fnExactTripOfSpec : ChangeSpec := { name := "fnExactTripOf", fn := fun _ => fun
  | [d1, d2, d3] => { results := [.lit (.bool true)], args := [d1, d2, d3] }
  | _ => none }
def fnExactTripOfRow : OpenClaim := { program := "ytcgjanadongffaa", sum := "db08aef1c8f9fa7c30018426983af9f8aadafb1dac06eb988ee8c57abf574426", func := "loop.example/g00834/laws.FnExactTripOf", spec := "fnExactTripOf", apart := false }
def FnExactTripOfSaid : Prop := fnExactTripOfRow.holds Try.pinned (OpenSpec.ofChange fnExactTripOfSpec)

/-- ITS FALSE NEIGHBOUR: 'it returns false'. Refute it at one input. -/
def fnExactTripOfWrong : ChangeSpec := { name := "fnExactTripOf", fn := fun _ => fun
  | [d1, d2, d3] => { results := [.lit (.bool false)], args := [d1, d2, d3] }
  | _ => none }
def FnExactTripOfWrongFalsely : Prop := fnExactTripOfRow.holds Try.pinned (OpenSpec.ofChange fnExactTripOfWrong)

/-- 'laws.FnExactTotalTravel': WHATEVER THE INPUT: true; the input reads as it did. -/
def fnExactTotalTravelSpec : ChangeSpec := { name := "fnExactTotalTravel", fn := fun _ => fun
  | [d1, d2] => { results := [.lit (.bool true)], args := [d1, d2] }
  | _ => none }
def fnExactTotalTravelRow : OpenClaim := { program := "ytcgjanadongffaa", sum := "db08aef1c8f9fa7c30018426983af9f8aadafb1dac06eb988ee8c57abf574426", func := "loop.example/g00834/laws.FnExactTotalTravel", spec := "fnExactTotalTravel", apart := false }
def FnExactTotalTravelSaid : Prop := fnExactTotalTravelRow.holds Try.pinned (OpenSpec.ofChange fnExactTotalTravelSpec)

/-- ITS FALSE NEIGHBOUR: 'it returns false'. Refute it at one input. -/
def fnExactTotalTravelWrong : ChangeSpec := { name := "fnExactTotalTravel", fn := fun _ => fun
  | [d1, d2] => { results := [.lit (.bool false)], args := [d1, d2] }
  | _ => none }
def FnExactTotalTravelWrongFalsely : Prop := fnExactTotalTravelRow.holds Try.pinned (OpenSpec.ofChange fnExactTotalTravelWrong)

/-- 'laws.FnExactTravelFloor': WHATEVER THE INPUT: true; the input reads as it did. -/
def fnExactTravelFloorSpec : ChangeSpec := { name := "fnExactTravelFloor", fn := fun _ => fun
  | [d1, d2] => { results := [.lit (.bool true)], args := [d1, d2] }
  | _ => none }
def fnExactTravelFloorRow : OpenClaim := { program := "ytcgjanadongffaa", sum := "db08aef1c8f9fa7c30018426983af9f8aadafb1dac06eb988ee8c57abf574426", func := "loop.example/g00834/laws.FnExactTravelFloor", spec := "fnExactTravelFloor", apart := false }
def FnExactTravelFloorSaid : Prop := fnExactTravelFloorRow.holds Try.pinned (OpenSpec.ofChange fnExactTravelFloorSpec)

/-- ITS FALSE NEIGHBOUR: 'it returns false'. Refute it at one input. -/
def fnExactTravelFloorWrong : ChangeSpec := { name := "fnExactTravelFloor", fn := fun _ => fun
  | [d1, d2] => { results := [.lit (.bool false)], args := [d1, d2] }
  | _ => none }
def FnExactTravelFloorWrongFalsely : Prop := fnExactTravelFloorRow.holds Try.pinned (OpenSpec.ofChange fnExactTravelFloorWrong)

/- THE SECOND FORM. 'bulk': how many values and letters a reading holds, each counted each time it is reached (what is shared counts as often as it is met; a slice's spare places count too). A statement '..UptoSaid' is the law's where the arguments, and the package variables that the reading takes, are together of bulk at most 1048576: NARROWER than '..Said'. Prove '..Said' where nothing that the law and all that it calls make is longer than what came in: it says more and counts as full. Else prove '..UptoSaid'. A law counts once. -/
mutual
def uptoBulk {H : Type} : DataW H → Nat
  | .lit (.string bytes) => bytes.length + 1
  | .lit _ => 1
  | .nil => 1
  | .ptr d => uptoBulk d + 1
  | .slice elems spare => uptoBulkAll elems + uptoBulkAll spare + 1
  | .agg parts => uptoBulkAll parts + 1
  | .iface _ d => uptoBulk d + 1
  | .map entries => uptoBulkEntries entries + 1
  | .held _ => 1
def uptoBulkAll {H : Type} : List (DataW H) → Nat
  | [] => 0
  | d :: r => uptoBulk d + uptoBulkAll r
def uptoBulkEntries {H : Type} : List (Lit × DataW H) → Nat
  | [] => 0
  | x :: r => uptoBulkEntry x + uptoBulkEntries r
def uptoBulkEntry {H : Type} : Lit × DataW H → Nat
  | (.string bytes, d) => bytes.length + uptoBulk d + 1
  | (_, d) => uptoBulk d + 1
 end
def uptoSmall : (H : Type) → List (DataW H) → Bool := fun _ ds => decide (uptoBulkAll ds ≤ 1048576)
def OpenSpec.upto (s : _root_.Go.ChangeSpec) : _root_.Go.OpenSpec := { _root_.Go.OpenSpec.ofChange s with cond := some uptoSmall }

/-- 'laws.FnExactIsSchedule', WHERE WHAT IT READS IS OF BULK AT MOST 1048576: true; the input reads as it did. -/
def fnExactIsScheduleUptoRow : OpenClaim := { program := "ytcgjanadongffaa", sum := "db08aef1c8f9fa7c30018426983af9f8aadafb1dac06eb988ee8c57abf574426", func := "loop.example/g00834/laws.FnExactIsSchedule", spec := "fnExactIsSchedule", apart := false, narrowed := true }
def FnExactIsScheduleUptoSaid : Prop := fnExactIsScheduleUptoRow.holds Try.pinned (OpenSpec.upto fnExactIsScheduleSpec)

/-- 'laws.FnExactBreaksOf', WHERE WHAT IT READS IS OF BULK AT MOST 1048576: true; the input reads as it did. -/
def fnExactBreaksOfUptoRow : OpenClaim := { program := "ytcgjanadongffaa", sum := "db08aef1c8f9fa7c30018426983af9f8aadafb1dac06eb988ee8c57abf574426", func := "loop.example/g00834/laws.FnExactBreaksOf", spec := "fnExactBreaksOf", apart := false, narrowed := true }
def FnExactBreaksOfUptoSaid : Prop := fnExactBreaksOfUptoRow.holds Try.pinned (OpenSpec.upto fnExactBreaksOfSpec)

/-- 'laws.FnExactMirrorRounds', WHERE WHAT IT READS IS OF BULK AT MOST 1048576: true; the input reads as it did. -/
def fnExactMirrorRoundsUptoRow : OpenClaim := { program := "ytcgjanadongffaa", sum := "db08aef1c8f9fa7c30018426983af9f8aadafb1dac06eb988ee8c57abf574426", func := "loop.example/g00834/laws.FnExactMirrorRounds", spec := "fnExactMirrorRounds", apart := false, narrowed := true }
def FnExactMirrorRoundsUptoSaid : Prop := fnExactMirrorRoundsUptoRow.holds Try.pinned (OpenSpec.upto fnExactMirrorRoundsSpec)

/-- 'laws.FnExactVenuesOf', WHERE WHAT IT READS IS OF BULK AT MOST 1048576: true; the input reads as it did. -/
def fnExactVenuesOfUptoRow : OpenClaim := { program := "ytcgjanadongffaa", sum := "db08aef1c8f9fa7c30018426983af9f8aadafb1dac06eb988ee8c57abf574426", func := "loop.example/g00834/laws.FnExactVenuesOf", spec := "fnExactVenuesOf", apart := false, narrowed := true }
def FnExactVenuesOfUptoSaid : Prop := fnExactVenuesOfUptoRow.holds Try.pinned (OpenSpec.upto fnExactVenuesOfSpec)

/-- 'laws.FnExactGroupOf', WHERE WHAT IT READS IS OF BULK AT MOST 1048576: true; the input reads as it did. -/
def fnExactGroupOfUptoRow : OpenClaim := { program := "ytcgjanadongffaa", sum := "db08aef1c8f9fa7c30018426983af9f8aadafb1dac06eb988ee8c57abf574426", func := "loop.example/g00834/laws.FnExactGroupOf", spec := "fnExactGroupOf", apart := false, narrowed := true }
def FnExactGroupOfUptoSaid : Prop := fnExactGroupOfUptoRow.holds Try.pinned (OpenSpec.upto fnExactGroupOfSpec)

/-- 'laws.FnExactIsRoundRobin', WHERE WHAT IT READS IS OF BULK AT MOST 1048576: true; the input reads as it did. -/
def fnExactIsRoundRobinUptoRow : OpenClaim := { program := "ytcgjanadongffaa", sum := "db08aef1c8f9fa7c30018426983af9f8aadafb1dac06eb988ee8c57abf574426", func := "loop.example/g00834/laws.FnExactIsRoundRobin", spec := "fnExactIsRoundRobin", apart := false, narrowed := true }
def FnExactIsRoundRobinUptoSaid : Prop := fnExactIsRoundRobinUptoRow.holds Try.pinned (OpenSpec.upto fnExactIsRoundRobinSpec)

/-- 'laws.FnExactGamesFrom', WHERE WHAT IT READS IS OF BULK AT MOST 1048576: true; the input reads as it did. -/
def fnExactGamesFromUptoRow : OpenClaim := { program := "ytcgjanadongffaa", sum := "db08aef1c8f9fa7c30018426983af9f8aadafb1dac06eb988ee8c57abf574426", func := "loop.example/g00834/laws.FnExactGamesFrom", spec := "fnExactGamesFrom", apart := false, narrowed := true }
def FnExactGamesFromUptoSaid : Prop := fnExactGamesFromUptoRow.holds Try.pinned (OpenSpec.upto fnExactGamesFromSpec)

/-- 'laws.FnExactTotalBreaks', WHERE WHAT IT READS IS OF BULK AT MOST 1048576: true; the input reads as it did. -/
def fnExactTotalBreaksUptoRow : OpenClaim := { program := "ytcgjanadongffaa", sum := "db08aef1c8f9fa7c30018426983af9f8aadafb1dac06eb988ee8c57abf574426", func := "loop.example/g00834/laws.FnExactTotalBreaks", spec := "fnExactTotalBreaks", apart := false, narrowed := true }
def FnExactTotalBreaksUptoSaid : Prop := fnExactTotalBreaksUptoRow.holds Try.pinned (OpenSpec.upto fnExactTotalBreaksSpec)

/-- 'laws.FnRounds', WHERE WHAT IT READS IS OF BULK AT MOST 1048576: true; the input reads as it did. -/
def fnRoundsUptoRow : OpenClaim := { program := "ytcgjanadongffaa", sum := "db08aef1c8f9fa7c30018426983af9f8aadafb1dac06eb988ee8c57abf574426", func := "loop.example/g00834/laws.FnRounds", spec := "fnRounds", unfollowed := true, recurses := true, apart := false, narrowed := true }
def FnRoundsUptoSaid : Prop := fnRoundsUptoRow.holds Try.pinned (OpenSpec.upto fnRoundsSpec)

/-- 'laws.FnExactTripOf', WHERE WHAT IT READS IS OF BULK AT MOST 1048576: true; the input reads as it did. -/
def fnExactTripOfUptoRow : OpenClaim := { program := "ytcgjanadongffaa", sum := "db08aef1c8f9fa7c30018426983af9f8aadafb1dac06eb988ee8c57abf574426", func := "loop.example/g00834/laws.FnExactTripOf", spec := "fnExactTripOf", apart := false, narrowed := true }
def FnExactTripOfUptoSaid : Prop := fnExactTripOfUptoRow.holds Try.pinned (OpenSpec.upto fnExactTripOfSpec)

/-- 'laws.FnExactTotalTravel', WHERE WHAT IT READS IS OF BULK AT MOST 1048576: true; the input reads as it did. -/
def fnExactTotalTravelUptoRow : OpenClaim := { program := "ytcgjanadongffaa", sum := "db08aef1c8f9fa7c30018426983af9f8aadafb1dac06eb988ee8c57abf574426", func := "loop.example/g00834/laws.FnExactTotalTravel", spec := "fnExactTotalTravel", apart := false, narrowed := true }
def FnExactTotalTravelUptoSaid : Prop := fnExactTotalTravelUptoRow.holds Try.pinned (OpenSpec.upto fnExactTotalTravelSpec)

/-- 'laws.FnExactTravelFloor', WHERE WHAT IT READS IS OF BULK AT MOST 1048576: true; the input reads as it did. -/
def fnExactTravelFloorUptoRow : OpenClaim := { program := "ytcgjanadongffaa", sum := "db08aef1c8f9fa7c30018426983af9f8aadafb1dac06eb988ee8c57abf574426", func := "loop.example/g00834/laws.FnExactTravelFloor", spec := "fnExactTravelFloor", apart := false, narrowed := true }
def FnExactTravelFloorUptoSaid : Prop := fnExactTravelFloorUptoRow.holds Try.pinned (OpenSpec.upto fnExactTravelFloorSpec)

end Rows
end Go.Proofs.Ytcgjanadongffaa
