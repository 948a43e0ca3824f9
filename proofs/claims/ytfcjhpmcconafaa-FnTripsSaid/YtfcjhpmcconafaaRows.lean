/-
  No cell of these rows narrows 'for every input' (looked for: loops, veiled, ifaces, maps, wideKeys, modest, calm, conditions, laid).
  DERIVED. THE GIVEN ROWS OF THIS SEAT. 8 by the template 'for every input the law returns true; each argument reads behind the call as it read before'; 0 by the template 'total and deterministic' (their statements: YtfcjhpmcconafaaTotals.lean).
  GIVEN WITH THE SEED: the statements are not yours to turn. If you find one false, say at which input.
  Laid BY PROGRAM, IN A SANDBOX (cutbox-rows.mjs): the forced cells as the released guide's own fill.sh prints them over the translation 70f603cdab8a2a00… (all of the seat's roots in one cut). By AI agents, Wed Nov 11 2026. No macro, syntax, notation, axiom, sorry.
-/
import Derived.Test.YtfcjhpmcconafaaChecked
import GoSem.Claim
import GoSem.ClaimJoined
import GoSem.ClaimMapViews
import Derived.JoinedTies
import Derived.KernelRfl
namespace Go.Proofs.Ytfcjhpmcconafaa
/- THE CELL 'sum', in the pinned program and in every row, IS THE sha256 OF THE DUMP (.gsa) THAT YtfcjhpmcconafaaProg.lean LOADS. Nothing in Lean hashes anything: it is a label: what it is worth is what the hold of that sum in a sandbox is worth. -/
noncomputable def Try.pinned : Pinned := { name := "ytfcjhpmcconafaa", sum := "70f603cdab8a2a00259557459c8565a93a2e78450ce9bba5f4a2f46f58f05721", checked := Try.checked }
namespace Rows
def none {H : Type} : Left H := { results := [], args := [] }

/-- 'laws.FnTrips': WHATEVER THE INPUT: true; the input reads as it did. -/
def fnTripsSpec : ChangeSpec := { name := "fnTrips", fn := fun _ => fun
  | [d] => { results := [.lit (.bool true)], args := [d] }
  | _ => none }
def fnTripsRow : OpenClaim := { program := "ytfcjhpmcconafaa", sum := "70f603cdab8a2a00259557459c8565a93a2e78450ce9bba5f4a2f46f58f05721", func := "loop.example/g00834/laws.FnTrips", spec := "fnTrips", unfollowed := true, recurses := true, apart := false }
def FnTripsSaid : Prop := fnTripsRow.holds Try.pinned (OpenSpec.ofChange fnTripsSpec)

/-- ITS FALSE NEIGHBOUR: 'it returns false'. Refute it at one input. -/
def fnTripsWrong : ChangeSpec := { name := "fnTrips", fn := fun _ => fun
  | [d] => { results := [.lit (.bool false)], args := [d] }
  | _ => none }
def FnTripsWrongFalsely : Prop := fnTripsRow.holds Try.pinned (OpenSpec.ofChange fnTripsWrong)

/-- 'laws.FnExactReorderRounds': WHATEVER THE INPUT: true; the input reads as it did. -/
def fnExactReorderRoundsSpec : ChangeSpec := { name := "fnExactReorderRounds", fn := fun _ => fun
  | [d1, d2] => { results := [.lit (.bool true)], args := [d1, d2] }
  | _ => none }
def fnExactReorderRoundsRow : OpenClaim := { program := "ytfcjhpmcconafaa", sum := "70f603cdab8a2a00259557459c8565a93a2e78450ce9bba5f4a2f46f58f05721", func := "loop.example/g00834/laws.FnExactReorderRounds", spec := "fnExactReorderRounds", unfollowed := true, recurses := true, apart := false }
def FnExactReorderRoundsSaid : Prop := fnExactReorderRoundsRow.holds Try.pinned (OpenSpec.ofChange fnExactReorderRoundsSpec)

/-- ITS FALSE NEIGHBOUR: 'it returns false'. Refute it at one input. -/
def fnExactReorderRoundsWrong : ChangeSpec := { name := "fnExactReorderRounds", fn := fun _ => fun
  | [d1, d2] => { results := [.lit (.bool false)], args := [d1, d2] }
  | _ => none }
def FnExactReorderRoundsWrongFalsely : Prop := fnExactReorderRoundsRow.holds Try.pinned (OpenSpec.ofChange fnExactReorderRoundsWrong)

/-- 'laws.FnExactBestOrder': WHATEVER THE INPUT: true; the input reads as it did. -/
def fnExactBestOrderSpec : ChangeSpec := { name := "fnExactBestOrder", fn := fun _ => fun
  | [d1, d2] => { results := [.lit (.bool true)], args := [d1, d2] }
  | _ => none }
def fnExactBestOrderRow : OpenClaim := { program := "ytfcjhpmcconafaa", sum := "70f603cdab8a2a00259557459c8565a93a2e78450ce9bba5f4a2f46f58f05721", func := "loop.example/g00834/laws.FnExactBestOrder", spec := "fnExactBestOrder", unfollowed := true, recurses := true, apart := false }
def FnExactBestOrderSaid : Prop := fnExactBestOrderRow.holds Try.pinned (OpenSpec.ofChange fnExactBestOrderSpec)

/-- ITS FALSE NEIGHBOUR: 'it returns false'. Refute it at one input. -/
def fnExactBestOrderWrong : ChangeSpec := { name := "fnExactBestOrder", fn := fun _ => fun
  | [d1, d2] => { results := [.lit (.bool false)], args := [d1, d2] }
  | _ => none }
def FnExactBestOrderWrongFalsely : Prop := fnExactBestOrderRow.holds Try.pinned (OpenSpec.ofChange fnExactBestOrderWrong)

/-- 'laws.FnExactIsCalendar': WHATEVER THE INPUT: true; the input reads as it did. -/
def fnExactIsCalendarSpec : ChangeSpec := { name := "fnExactIsCalendar", fn := fun _ => fun
  | [d1, d2, d3] => { results := [.lit (.bool true)], args := [d1, d2, d3] }
  | _ => none }
def fnExactIsCalendarRow : OpenClaim := { program := "ytfcjhpmcconafaa", sum := "70f603cdab8a2a00259557459c8565a93a2e78450ce9bba5f4a2f46f58f05721", func := "loop.example/g00834/laws.FnExactIsCalendar", spec := "fnExactIsCalendar", apart := false }
def FnExactIsCalendarSaid : Prop := fnExactIsCalendarRow.holds Try.pinned (OpenSpec.ofChange fnExactIsCalendarSpec)

/-- ITS FALSE NEIGHBOUR: 'it returns false'. Refute it at one input. -/
def fnExactIsCalendarWrong : ChangeSpec := { name := "fnExactIsCalendar", fn := fun _ => fun
  | [d1, d2, d3] => { results := [.lit (.bool false)], args := [d1, d2, d3] }
  | _ => none }
def FnExactIsCalendarWrongFalsely : Prop := fnExactIsCalendarRow.holds Try.pinned (OpenSpec.ofChange fnExactIsCalendarWrong)

/-- 'laws.FnExactRestOf': WHATEVER THE INPUT: true; the input reads as it did. -/
def fnExactRestOfSpec : ChangeSpec := { name := "fnExactRestOf", fn := fun _ => fun
  | [d1, d2, d3] => { results := [.lit (.bool true)], args := [d1, d2, d3] }
  | _ => none }
def fnExactRestOfRow : OpenClaim := { program := "ytfcjhpmcconafaa", sum := "70f603cdab8a2a00259557459c8565a93a2e78450ce9bba5f4a2f46f58f05721", func := "loop.example/g00834/laws.FnExactRestOf", spec := "fnExactRestOf", unfollowed := true, recurses := true, apart := false }
def FnExactRestOfSaid : Prop := fnExactRestOfRow.holds Try.pinned (OpenSpec.ofChange fnExactRestOfSpec)

/-- ITS FALSE NEIGHBOUR: 'it returns false'. Refute it at one input. -/
def fnExactRestOfWrong : ChangeSpec := { name := "fnExactRestOf", fn := fun _ => fun
  | [d1, d2, d3] => { results := [.lit (.bool false)], args := [d1, d2, d3] }
  | _ => none }
def FnExactRestOfWrongFalsely : Prop := fnExactRestOfRow.holds Try.pinned (OpenSpec.ofChange fnExactRestOfWrong)

/-- 'laws.FnExactBlockedRounds': WHATEVER THE INPUT: true; the input reads as it did. -/
def fnExactBlockedRoundsSpec : ChangeSpec := { name := "fnExactBlockedRounds", fn := fun _ => fun
  | [d1, d2] => { results := [.lit (.bool true)], args := [d1, d2] }
  | _ => none }
def fnExactBlockedRoundsRow : OpenClaim := { program := "ytfcjhpmcconafaa", sum := "70f603cdab8a2a00259557459c8565a93a2e78450ce9bba5f4a2f46f58f05721", func := "loop.example/g00834/laws.FnExactBlockedRounds", spec := "fnExactBlockedRounds", unfollowed := true, recurses := true, apart := false }
def FnExactBlockedRoundsSaid : Prop := fnExactBlockedRoundsRow.holds Try.pinned (OpenSpec.ofChange fnExactBlockedRoundsSpec)

/-- ITS FALSE NEIGHBOUR: 'it returns false'. Refute it at one input. -/
def fnExactBlockedRoundsWrong : ChangeSpec := { name := "fnExactBlockedRounds", fn := fun _ => fun
  | [d1, d2] => { results := [.lit (.bool false)], args := [d1, d2] }
  | _ => none }
def FnExactBlockedRoundsWrongFalsely : Prop := fnExactBlockedRoundsRow.holds Try.pinned (OpenSpec.ofChange fnExactBlockedRoundsWrong)

/-- 'laws.FnExactFirstCalendar': WHATEVER THE INPUT: true; the input reads as it did. -/
def fnExactFirstCalendarSpec : ChangeSpec := { name := "fnExactFirstCalendar", fn := fun _ => fun
  | [d1, d2] => { results := [.lit (.bool true)], args := [d1, d2] }
  | _ => none }
def fnExactFirstCalendarRow : OpenClaim := { program := "ytfcjhpmcconafaa", sum := "70f603cdab8a2a00259557459c8565a93a2e78450ce9bba5f4a2f46f58f05721", func := "loop.example/g00834/laws.FnExactFirstCalendar", spec := "fnExactFirstCalendar", apart := false }
def FnExactFirstCalendarSaid : Prop := fnExactFirstCalendarRow.holds Try.pinned (OpenSpec.ofChange fnExactFirstCalendarSpec)

/-- ITS FALSE NEIGHBOUR: 'it returns false'. Refute it at one input. -/
def fnExactFirstCalendarWrong : ChangeSpec := { name := "fnExactFirstCalendar", fn := fun _ => fun
  | [d1, d2] => { results := [.lit (.bool false)], args := [d1, d2] }
  | _ => none }
def FnExactFirstCalendarWrongFalsely : Prop := fnExactFirstCalendarRow.holds Try.pinned (OpenSpec.ofChange fnExactFirstCalendarWrong)

/-- 'laws.FnCalendars': WHATEVER THE INPUT: true; the input reads as it did. -/
def fnCalendarsSpec : ChangeSpec := { name := "fnCalendars", fn := fun _ => fun
  | [d] => { results := [.lit (.bool true)], args := [d] }
  | _ => none }
def fnCalendarsRow : OpenClaim := { program := "ytfcjhpmcconafaa", sum := "70f603cdab8a2a00259557459c8565a93a2e78450ce9bba5f4a2f46f58f05721", func := "loop.example/g00834/laws.FnCalendars", spec := "fnCalendars", unfollowed := true, recurses := true, apart := false }
def FnCalendarsSaid : Prop := fnCalendarsRow.holds Try.pinned (OpenSpec.ofChange fnCalendarsSpec)

/-- ITS FALSE NEIGHBOUR: 'it returns false'. Refute it at one input. -/
def fnCalendarsWrong : ChangeSpec := { name := "fnCalendars", fn := fun _ => fun
  | [d] => { results := [.lit (.bool false)], args := [d] }
  | _ => none }
def FnCalendarsWrongFalsely : Prop := fnCalendarsRow.holds Try.pinned (OpenSpec.ofChange fnCalendarsWrong)

/- THE SECOND FORM. 'bulk': how many values and letters a reading holds, each counted each time it is reached (what is shared counts as often as it is met; a slice's spare places count too). A statement '..UptoSaid' is the law's where the arguments, and the package variables that the reading takes, are together of bulk at most 1048576: NARROWER than '..Said'. Prove '..Said' where nothing that the law and all that it calls make is longer than what came in: it says more and counts as full. Else prove '..UptoSaid'. A law counts once. -/
mutual
def uptoBulk {H : Type} : DataW H → Nat
  | .lit (.string bytes) => bytes.length + 1
  | .lit _ => 1
  | .nil => 1
  | .ptr d => uptoBulk d + 1
  | .slice elems spare => uptoBulkAll elems + uptoBulkAll spare + 1
  | .agg parts => uptoBulkAll parts + 1
  | .iface _ d => uptoBulk d + 1
  | .map entries => uptoBulkEntries entries + 1
  | .held _ => 1
def uptoBulkAll {H : Type} : List (DataW H) → Nat
  | [] => 0
  | d :: r => uptoBulk d + uptoBulkAll r
def uptoBulkEntries {H : Type} : List (Lit × DataW H) → Nat
  | [] => 0
  | x :: r => uptoBulkEntry x + uptoBulkEntries r
def uptoBulkEntry {H : Type} : Lit × DataW H → Nat
  | (.string bytes, d) => bytes.length + uptoBulk d + 1
  | (_, d) => uptoBulk d + 1
 end
def uptoSmall : (H : Type) → List (DataW H) → Bool := fun _ ds => decide (uptoBulkAll ds ≤ 1048576)
def OpenSpec.upto (s : _root_.Go.ChangeSpec) : _root_.Go.OpenSpec := { _root_.Go.OpenSpec.ofChange s with cond := some uptoSmall }

/-- 'laws.FnTrips', WHERE WHAT IT READS IS OF BULK AT MOST 1048576: true; the input reads as it did. -/
def fnTripsUptoRow : OpenClaim := { program := "ytfcjhpmcconafaa", sum := "70f603cdab8a2a00259557459c8565a93a2e78450ce9bba5f4a2f46f58f05721", func := "loop.example/g00834/laws.FnTrips", spec := "fnTrips", unfollowed := true, recurses := true, apart := false, narrowed := true }
def FnTripsUptoSaid : Prop := fnTripsUptoRow.holds Try.pinned (OpenSpec.upto fnTripsSpec)

/-- 'laws.FnExactReorderRounds', WHERE WHAT IT READS IS OF BULK AT MOST 1048576: true; the input reads as it did. -/
def fnExactReorderRoundsUptoRow : OpenClaim := { program := "ytfcjhpmcconafaa", sum := "70f603cdab8a2a00259557459c8565a93a2e78450ce9bba5f4a2f46f58f05721", func := "loop.example/g00834/laws.FnExactReorderRounds", spec := "fnExactReorderRounds", unfollowed := true, recurses := true, apart := false, narrowed := true }
def FnExactReorderRoundsUptoSaid : Prop := fnExactReorderRoundsUptoRow.holds Try.pinned (OpenSpec.upto fnExactReorderRoundsSpec)

/-- 'laws.FnExactBestOrder', WHERE WHAT IT READS IS OF BULK AT MOST 1048576: true; the input reads as it did. -/
def fnExactBestOrderUptoRow : OpenClaim := { program := "ytfcjhpmcconafaa", sum := "70f603cdab8a2a00259557459c8565a93a2e78450ce9bba5f4a2f46f58f05721", func := "loop.example/g00834/laws.FnExactBestOrder", spec := "fnExactBestOrder", unfollowed := true, recurses := true, apart := false, narrowed := true }
def FnExactBestOrderUptoSaid : Prop := fnExactBestOrderUptoRow.holds Try.pinned (OpenSpec.upto fnExactBestOrderSpec)

/-- 'laws.FnExactIsCalendar', WHERE WHAT IT READS IS OF BULK AT MOST 1048576: true; the input reads as it did. -/
def fnExactIsCalendarUptoRow : OpenClaim := { program := "ytfcjhpmcconafaa", sum := "70f603cdab8a2a00259557459c8565a93a2e78450ce9bba5f4a2f46f58f05721", func := "loop.example/g00834/laws.FnExactIsCalendar", spec := "fnExactIsCalendar", apart := false, narrowed := true }
def FnExactIsCalendarUptoSaid : Prop := fnExactIsCalendarUptoRow.holds Try.pinned (OpenSpec.upto fnExactIsCalendarSpec)

/-- 'laws.FnExactRestOf', WHERE WHAT IT READS IS OF BULK AT MOST 1048576: true; the input reads as it did. -/
def fnExactRestOfUptoRow : OpenClaim := { program := "ytfcjhpmcconafaa", sum := "70f603cdab8a2a00259557459c8565a93a2e78450ce9bba5f4a2f46f58f05721", func := "loop.example/g00834/laws.FnExactRestOf", spec := "fnExactRestOf", unfollowed := true, recurses := true, apart := false, narrowed := true }
def FnExactRestOfUptoSaid : Prop := fnExactRestOfUptoRow.holds Try.pinned (OpenSpec.upto fnExactRestOfSpec)

/-- 'laws.FnExactBlockedRounds', WHERE WHAT IT READS IS OF BULK AT MOST 1048576: true; the input reads as it did. -/
def fnExactBlockedRoundsUptoRow : OpenClaim := { program := "ytfcjhpmcconafaa", sum := "70f603cdab8a2a00259557459c8565a93a2e78450ce9bba5f4a2f46f58f05721", func := "loop.example/g00834/laws.FnExactBlockedRounds", spec := "fnExactBlockedRounds", unfollowed := true, recurses := true, apart := false, narrowed := true }
def FnExactBlockedRoundsUptoSaid : Prop := fnExactBlockedRoundsUptoRow.holds Try.pinned (OpenSpec.upto fnExactBlockedRoundsSpec)

/-- 'laws.FnExactFirstCalendar', WHERE WHAT IT READS IS OF BULK AT MOST 1048576: true; the input reads as it did. -/
def fnExactFirstCalendarUptoRow : OpenClaim := { program := "ytfcjhpmcconafaa", sum := "70f603cdab8a2a00259557459c8565a93a2e78450ce9bba5f4a2f46f58f05721", func := "loop.example/g00834/laws.FnExactFirstCalendar", spec := "fnExactFirstCalendar", apart := false, narrowed := true }
def FnExactFirstCalendarUptoSaid : Prop := fnExactFirstCalendarUptoRow.holds Try.pinned (OpenSpec.upto fnExactFirstCalendarSpec)

/-- 'laws.FnCalendars', WHERE WHAT IT READS IS OF BULK AT MOST 1048576: true; the input reads as it did. -/
def fnCalendarsUptoRow : OpenClaim := { program := "ytfcjhpmcconafaa", sum := "70f603cdab8a2a00259557459c8565a93a2e78450ce9bba5f4a2f46f58f05721", func := "loop.example/g00834/laws.FnCalendars", spec := "fnCalendars", unfollowed := true, recurses := true, apart := false, narrowed := true }
def FnCalendarsUptoSaid : Prop := fnCalendarsUptoRow.holds Try.pinned (OpenSpec.upto fnCalendarsSpec)

end Rows
end Go.Proofs.Ytfcjhpmcconafaa
