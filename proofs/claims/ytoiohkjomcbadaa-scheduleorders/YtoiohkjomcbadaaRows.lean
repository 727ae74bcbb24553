/-
  No cell of these rows narrows 'for every input' (looked for: loops, veiled, ifaces, maps, wideKeys, modest, calm, conditions, laid).
  DERIVED. THE GIVEN ROWS OF THIS SEAT. 9 by the template 'for every input the law returns true; each argument reads behind the call as it read before'; 0 by the template 'total and deterministic' (their statements: YtoiohkjomcbadaaTotals.lean).
  GIVEN WITH THE SEED: the statements are not yours to turn. If you find one false, say at which input.
  Laid BY PROGRAM, IN A SANDBOX (cutbox-rows.mjs): the forced cells as the released guide's own fill.sh prints them over the translation 88b646e9fc0c3e2c… (all of the seat's roots in one cut). By AI agents, Wed Nov 11 2026. No macro, syntax, notation, axiom, sorry.
-/
import Derived.Test.YtoiohkjomcbadaaChecked
import GoSem.Claim
import GoSem.ClaimJoined
import GoSem.ClaimMapViews
import Derived.JoinedTies
import Derived.KernelRfl
namespace Go.Proofs.Ytoiohkjomcbadaa
/- THE CELL 'sum', in the pinned program and in every row, IS THE sha256 OF THE DUMP (.gsa) THAT YtoiohkjomcbadaaProg.lean LOADS. Nothing in Lean hashes anything: it is a label: what it is worth is what the hold of that sum in a sandbox is worth. -/
noncomputable def Try.pinned : Pinned := { name := "ytoiohkjomcbadaa", sum := "88b646e9fc0c3e2cc15d8772d59494db54e6c010217f60eede4e6905f0df49ee", checked := Try.checked }
namespace Rows
def none {H : Type} : Left H := { results := [], args := [] }

/-- 'goosenecklaw09.ScheduleWider': WHATEVER THE INPUT: true; the input reads as it did. -/
def scheduleWiderSpec : ChangeSpec := { name := "scheduleWider", fn := fun _ => fun
  | [d1, d2, d3, d4] => { results := [.lit (.bool true)], args := [d1, d2, d3, d4] }
  | _ => none }
def scheduleWiderRow : OpenClaim := { program := "ytoiohkjomcbadaa", sum := "88b646e9fc0c3e2cc15d8772d59494db54e6c010217f60eede4e6905f0df49ee", func := "gooseneck/goosenecklaw09.ScheduleWider", spec := "scheduleWider", unfollowed := true, recurses := true, apart := false }
def ScheduleWiderSaid : Prop := scheduleWiderRow.holds Try.pinned (OpenSpec.ofChange scheduleWiderSpec)

/-- ITS FALSE NEIGHBOUR: 'it returns false'. Refute it at one input. -/
def scheduleWiderWrong : ChangeSpec := { name := "scheduleWider", fn := fun _ => fun
  | [d1, d2, d3, d4] => { results := [.lit (.bool false)], args := [d1, d2, d3, d4] }
  | _ => none }
def ScheduleWiderWrongFalsely : Prop := scheduleWiderRow.holds Try.pinned (OpenSpec.ofChange scheduleWiderWrong)

/-- 'goosenecklaw09.ScheduleEarliest': WHATEVER THE INPUT: true; the input reads as it did. -/
def scheduleEarliestSpec : ChangeSpec := { name := "scheduleEarliest", fn := fun _ => fun
  | [d1, d2, d3] => { results := [.lit (.bool true)], args := [d1, d2, d3] }
  | _ => none }
def scheduleEarliestRow : OpenClaim := { program := "ytoiohkjomcbadaa", sum := "88b646e9fc0c3e2cc15d8772d59494db54e6c010217f60eede4e6905f0df49ee", func := "gooseneck/goosenecklaw09.ScheduleEarliest", spec := "scheduleEarliest", unfollowed := true, recurses := true, apart := false }
def ScheduleEarliestSaid : Prop := scheduleEarliestRow.holds Try.pinned (OpenSpec.ofChange scheduleEarliestSpec)

/-- ITS FALSE NEIGHBOUR: 'it returns false'. Refute it at one input. -/
def scheduleEarliestWrong : ChangeSpec := { name := "scheduleEarliest", fn := fun _ => fun
  | [d1, d2, d3] => { results := [.lit (.bool false)], args := [d1, d2, d3] }
  | _ => none }
def ScheduleEarliestWrongFalsely : Prop := scheduleEarliestRow.holds Try.pinned (OpenSpec.ofChange scheduleEarliestWrong)

/-- 'goosenecklaw09.ScheduleBest': WHATEVER THE INPUT: true; the input reads as it did. -/
def scheduleBestSpec : ChangeSpec := { name := "scheduleBest", fn := fun _ => fun
  | [d] => { results := [.lit (.bool true)], args := [d] }
  | _ => none }
def scheduleBestRow : OpenClaim := { program := "ytoiohkjomcbadaa", sum := "88b646e9fc0c3e2cc15d8772d59494db54e6c010217f60eede4e6905f0df49ee", func := "gooseneck/goosenecklaw09.ScheduleBest", spec := "scheduleBest", unfollowed := true, recurses := true, apart := false }
def ScheduleBestSaid : Prop := scheduleBestRow.holds Try.pinned (OpenSpec.ofChange scheduleBestSpec)

/-- ITS FALSE NEIGHBOUR: 'it returns false'. Refute it at one input. -/
def scheduleBestWrong : ChangeSpec := { name := "scheduleBest", fn := fun _ => fun
  | [d] => { results := [.lit (.bool false)], args := [d] }
  | _ => none }
def ScheduleBestWrongFalsely : Prop := scheduleBestRow.holds Try.pinned (OpenSpec.ofChange scheduleBestWrong)

/-- 'goosenecklaw09.ScheduleProofs': WHATEVER THE INPUT: true; the input reads as it did. -/
def scheduleProofsSpec : ChangeSpec := { name := "scheduleProofs", fn := fun _ => fun
  | [d1, d2, d3, d4, d5] => { results := [.lit (.bool true)], args := [d1, d2, d3, d4, d5] }
  | _ => none }
def scheduleProofsRow : OpenClaim := { program := "ytoiohkjomcbadaa", sum := "88b646e9fc0c3e2cc15d8772d59494db54e6c010217f60eede4e6905f0df49ee", func := "gooseneck/goosenecklaw09.ScheduleProofs", spec := "scheduleProofs", unfollowed := true, recurses := true, apart := false }
def ScheduleProofsSaid : Prop := scheduleProofsRow.holds Try.pinned (OpenSpec.ofChange scheduleProofsSpec)

/-- ITS FALSE NEIGHBOUR: 'it returns false'. Refute it at one input. -/
def scheduleProofsWrong : ChangeSpec := { name := "scheduleProofs", fn := fun _ => fun
  | [d1, d2, d3, d4, d5] => { results := [.lit (.bool false)], args := [d1, d2, d3, d4, d5] }
  | _ => none }
def ScheduleProofsWrongFalsely : Prop := scheduleProofsRow.holds Try.pinned (OpenSpec.ofChange scheduleProofsWrong)

/-- 'goosenecklaw09.ScheduleAccepted': WHATEVER THE INPUT: true; the input reads as it did. -/
def scheduleAcceptedSpec : ChangeSpec := { name := "scheduleAccepted", fn := fun _ => fun
  | [d1, d2, d3, d4, d5] => { results := [.lit (.bool true)], args := [d1, d2, d3, d4, d5] }
  | _ => none }
def scheduleAcceptedRow : OpenClaim := { program := "ytoiohkjomcbadaa", sum := "88b646e9fc0c3e2cc15d8772d59494db54e6c010217f60eede4e6905f0df49ee", func := "gooseneck/goosenecklaw09.ScheduleAccepted", spec := "scheduleAccepted", unfollowed := true, recurses := true, apart := false }
def ScheduleAcceptedSaid : Prop := scheduleAcceptedRow.holds Try.pinned (OpenSpec.ofChange scheduleAcceptedSpec)

/-- ITS FALSE NEIGHBOUR: 'it returns false'. Refute it at one input. -/
def scheduleAcceptedWrong : ChangeSpec := { name := "scheduleAccepted", fn := fun _ => fun
  | [d1, d2, d3, d4, d5] => { results := [.lit (.bool false)], args := [d1, d2, d3, d4, d5] }
  | _ => none }
def ScheduleAcceptedWrongFalsely : Prop := scheduleAcceptedRow.holds Try.pinned (OpenSpec.ofChange scheduleAcceptedWrong)

/-- 'goosenecklaw09.ScheduleCrews': WHATEVER THE INPUT: true; the input reads as it did. -/
def scheduleCrewsSpec : ChangeSpec := { name := "scheduleCrews", fn := fun _ => fun
  | [d1, d2, d3, d4, d5] => { results := [.lit (.bool true)], args := [d1, d2, d3, d4, d5] }
  | _ => none }
def scheduleCrewsRow : OpenClaim := { program := "ytoiohkjomcbadaa", sum := "88b646e9fc0c3e2cc15d8772d59494db54e6c010217f60eede4e6905f0df49ee", func := "gooseneck/goosenecklaw09.ScheduleCrews", spec := "scheduleCrews", unfollowed := true, recurses := true, apart := false }
def ScheduleCrewsSaid : Prop := scheduleCrewsRow.holds Try.pinned (OpenSpec.ofChange scheduleCrewsSpec)

/-- ITS FALSE NEIGHBOUR: 'it returns false'. Refute it at one input. -/
def scheduleCrewsWrong : ChangeSpec := { name := "scheduleCrews", fn := fun _ => fun
  | [d1, d2, d3, d4, d5] => { results := [.lit (.bool false)], args := [d1, d2, d3, d4, d5] }
  | _ => none }
def ScheduleCrewsWrongFalsely : Prop := scheduleCrewsRow.holds Try.pinned (OpenSpec.ofChange scheduleCrewsWrong)

/-- 'goosenecklaw09.ScheduleRests': WHATEVER THE INPUT: true; the input reads as it did. -/
def scheduleRestsSpec : ChangeSpec := { name := "scheduleRests", fn := fun _ => fun
  | [d1, d2, d3, d4, d5, d6] => { results := [.lit (.bool true)], args := [d1, d2, d3, d4, d5, d6] }
  | _ => none }
def scheduleRestsRow : OpenClaim := { program := "ytoiohkjomcbadaa", sum := "88b646e9fc0c3e2cc15d8772d59494db54e6c010217f60eede4e6905f0df49ee", func := "gooseneck/goosenecklaw09.ScheduleRests", spec := "scheduleRests", unfollowed := true, recurses := true, apart := false }
def ScheduleRestsSaid : Prop := scheduleRestsRow.holds Try.pinned (OpenSpec.ofChange scheduleRestsSpec)

/-- ITS FALSE NEIGHBOUR: 'it returns false'. Refute it at one input. -/
def scheduleRestsWrong : ChangeSpec := { name := "scheduleRests", fn := fun _ => fun
  | [d1, d2, d3, d4, d5, d6] => { results := [.lit (.bool false)], args := [d1, d2, d3, d4, d5, d6] }
  | _ => none }
def ScheduleRestsWrongFalsely : Prop := scheduleRestsRow.holds Try.pinned (OpenSpec.ofChange scheduleRestsWrong)

/-- 'goosenecklaw09.SchedulePlans': WHATEVER THE INPUT: true; the input reads as it did. -/
def schedulePlansSpec : ChangeSpec := { name := "schedulePlans", fn := fun _ => fun
  | [d1, d2, d3, d4, d5, d6] => { results := [.lit (.bool true)], args := [d1, d2, d3, d4, d5, d6] }
  | _ => none }
def schedulePlansRow : OpenClaim := { program := "ytoiohkjomcbadaa", sum := "88b646e9fc0c3e2cc15d8772d59494db54e6c010217f60eede4e6905f0df49ee", func := "gooseneck/goosenecklaw09.SchedulePlans", spec := "schedulePlans", unfollowed := true, recurses := true, apart := false }
def SchedulePlansSaid : Prop := schedulePlansRow.holds Try.pinned (OpenSpec.ofChange schedulePlansSpec)

/-- ITS FALSE NEIGHBOUR: 'it returns false'. Refute it at one input. -/
def schedulePlansWrong : ChangeSpec := { name := "schedulePlans", fn := fun _ => fun
  | [d1, d2, d3, d4, d5, d6] => { results := [.lit (.bool false)], args := [d1, d2, d3, d4, d5, d6] }
  | _ => none }
def SchedulePlansWrongFalsely : Prop := schedulePlansRow.holds Try.pinned (OpenSpec.ofChange schedulePlansWrong)

/-- 'goosenecklaw09.ScheduleOrders': WHATEVER THE INPUT: true; the input reads as it did. -/
def scheduleOrdersSpec : ChangeSpec := { name := "scheduleOrders", fn := fun _ => fun
  | [d1, d2, d3] => { results := [.lit (.bool true)], args := [d1, d2, d3] }
  | _ => none }
def scheduleOrdersRow : OpenClaim := { program := "ytoiohkjomcbadaa", sum := "88b646e9fc0c3e2cc15d8772d59494db54e6c010217f60eede4e6905f0df49ee", func := "gooseneck/goosenecklaw09.ScheduleOrders", spec := "scheduleOrders", unfollowed := true, recurses := true, apart := false }
def ScheduleOrdersSaid : Prop := scheduleOrdersRow.holds Try.pinned (OpenSpec.ofChange scheduleOrdersSpec)

/-- ITS FALSE NEIGHBOUR: 'it returns false'. Refute it at one input. -/
def scheduleOrdersWrong : ChangeSpec := { name := "scheduleOrders", fn := fun _ => fun
  | [d1, d2, d3] => { results := [.lit (.bool false)], args := [d1, d2, d3] }
  | _ => none }
def ScheduleOrdersWrongFalsely : Prop := scheduleOrdersRow.holds Try.pinned (OpenSpec.ofChange scheduleOrdersWrong)

/- THE SECOND FORM. 'bulk': how many values and letters a reading holds, each counted each time it is reached (what is shared counts as often as it is met; a slice's spare places count too). A statement '..UptoSaid' is the law's where the arguments, and the package variables that the reading takes, are together of bulk at most 1048576: NARROWER than '..Said'. Prove '..Said' where nothing that the law and all that it calls make is longer than what came in: it says more and counts as full. Else prove '..UptoSaid'. A law counts once. -/
mutual
def uptoBulk {H : Type} : DataW H → Nat
  | .lit (.string bytes) => bytes.length + 1
  | .lit _ => 1
  | .nil => 1
  | .ptr d => uptoBulk d + 1
  | .slice elems spare => uptoBulkAll elems + uptoBulkAll spare + 1
  | .agg parts => uptoBulkAll parts + 1
  | .iface _ d => uptoBulk d + 1
  | .map entries => uptoBulkEntries entries + 1
  | .held _ => 1
def uptoBulkAll {H : Type} : List (DataW H) → Nat
  | [] => 0
  | d :: r => uptoBulk d + uptoBulkAll r
def uptoBulkEntries {H : Type} : List (Lit × DataW H) → Nat
  | [] => 0
  | x :: r => uptoBulkEntry x + uptoBulkEntries r
def uptoBulkEntry {H : Type} : Lit × DataW H → Nat
  | (.string bytes, d) => bytes.length + uptoBulk d + 1
  | (_, d) => uptoBulk d + 1
 end
def uptoSmall : (H : Type) → List (DataW H) → Bool := fun _ ds => decide (uptoBulkAll ds ≤ 1048576)
def OpenSpec.upto (s : _root_.Go.ChangeSpec) : _root_.Go.OpenSpec := { _root_.Go.OpenSpec.ofChange s with cond := some uptoSmall }

/-- 'goosenecklaw09.ScheduleWider', WHERE WHAT IT READS IS OF BULK AT MOST 1048576: true; the input reads as it did. -/
def scheduleWiderUptoRow : OpenClaim := { program := "ytoiohkjomcbadaa", sum := "88b646e9fc0c3e2cc15d8772d59494db54e6c010217f60eede4e6905f0df49ee", func := "gooseneck/goosenecklaw09.ScheduleWider", spec := "scheduleWider", unfollowed := true, recurses := true, apart := false, narrowed := true }
def ScheduleWiderUptoSaid : Prop := scheduleWiderUptoRow.holds Try.pinned (OpenSpec.upto scheduleWiderSpec)

/-- 'goosenecklaw09.ScheduleEarliest', WHERE WHAT IT READS IS OF BULK AT MOST 1048576: true; the input reads as it did. -/
def scheduleEarliestUptoRow : OpenClaim := { program := "ytoiohkjomcbadaa", sum := "88b646e9fc0c3e2cc15d8772d59494db54e6c010217f60eede4e6905f0df49ee", func := "gooseneck/goosenecklaw09.ScheduleEarliest", spec := "scheduleEarliest", unfollowed := true, recurses := true, apart := false, narrowed := true }
def ScheduleEarliestUptoSaid : Prop := scheduleEarliestUptoRow.holds Try.pinned (OpenSpec.upto scheduleEarliestSpec)

/-- 'goosenecklaw09.ScheduleBest', WHERE WHAT IT READS IS OF BULK AT MOST 1048576: true; the input reads as it did. -/
def scheduleBestUptoRow : OpenClaim := { program := "ytoiohkjomcbadaa", sum := "88b646e9fc0c3e2cc15d8772d59494db54e6c010217f60eede4e6905f0df49ee", func := "gooseneck/goosenecklaw09.ScheduleBest", spec := "scheduleBest", unfollowed := true, recurses := true, apart := false, narrowed := true }
def ScheduleBestUptoSaid : Prop := scheduleBestUptoRow.holds Try.pinned (OpenSpec.upto scheduleBestSpec)

/-- 'goosenecklaw09.ScheduleProofs', WHERE WHAT IT READS IS OF BULK AT MOST 1048576: true; the input reads as it did. -/
def scheduleProofsUptoRow : OpenClaim := { program := "ytoiohkjomcbadaa", sum := "88b646e9fc0c3e2cc15d8772d59494db54e6c010217f60eede4e6905f0df49ee", func := "gooseneck/goosenecklaw09.ScheduleProofs", spec := "scheduleProofs", unfollowed := true, recurses := true, apart := false, narrowed := true }
def ScheduleProofsUptoSaid : Prop := scheduleProofsUptoRow.holds Try.pinned (OpenSpec.upto scheduleProofsSpec)

/-- 'goosenecklaw09.ScheduleAccepted', WHERE WHAT IT READS IS OF BULK AT MOST 1048576: true; the input reads as it did. -/
def scheduleAcceptedUptoRow : OpenClaim := { program := "ytoiohkjomcbadaa", sum := "88b646e9fc0c3e2cc15d8772d59494db54e6c010217f60eede4e6905f0df49ee", func := "gooseneck/goosenecklaw09.ScheduleAccepted", spec := "scheduleAccepted", unfollowed := true, recurses := true, apart := false, narrowed := true }
def ScheduleAcceptedUptoSaid : Prop := scheduleAcceptedUptoRow.holds Try.pinned (OpenSpec.upto scheduleAcceptedSpec)

/-- 'goosenecklaw09.ScheduleCrews', WHERE WHAT IT READS IS OF BULK AT MOST 1048576: true; the input reads as it did. -/
def scheduleCrewsUptoRow : OpenClaim := { program := "ytoiohkjomcbadaa", sum := "88b646e9fc0c3e2cc15d8772d59494db54e6c010217f60eede4e6905f0df49ee", func := "gooseneck/goosenecklaw09.ScheduleCrews", spec := "scheduleCrews", unfollowed := true, recurses := true, apart := false, narrowed := true }
def ScheduleCrewsUptoSaid : Prop := scheduleCrewsUptoRow.holds Try.pinned (OpenSpec.upto scheduleCrewsSpec)

/-- 'goosenecklaw09.ScheduleRests', WHERE WHAT IT READS IS OF BULK AT MOST 1048576: true; the input reads as it did. -/
def scheduleRestsUptoRow : OpenClaim := { program := "ytoiohkjomcbadaa", sum := "88b646e9fc0c3e2cc15d8772d59494db54e6c010217f60eede4e6905f0df49ee", func := "gooseneck/goosenecklaw09.ScheduleRests", spec := "scheduleRests", unfollowed := true, recurses := true, apart := false, narrowed := true }
def ScheduleRestsUptoSaid : Prop := scheduleRestsUptoRow.holds Try.pinned (OpenSpec.upto scheduleRestsSpec)

/-- 'goosenecklaw09.SchedulePlans', WHERE WHAT IT READS IS OF BULK AT MOST 1048576: true; the input reads as it did. -/
def schedulePlansUptoRow : OpenClaim := { program := "ytoiohkjomcbadaa", sum := "88b646e9fc0c3e2cc15d8772d59494db54e6c010217f60eede4e6905f0df49ee", func := "gooseneck/goosenecklaw09.SchedulePlans", spec := "schedulePlans", unfollowed := true, recurses := true, apart := false, narrowed := true }
def SchedulePlansUptoSaid : Prop := schedulePlansUptoRow.holds Try.pinned (OpenSpec.upto schedulePlansSpec)

/-- 'goosenecklaw09.ScheduleOrders', WHERE WHAT IT READS IS OF BULK AT MOST 1048576: true; the input reads as it did. -/
def scheduleOrdersUptoRow : OpenClaim := { program := "ytoiohkjomcbadaa", sum := "88b646e9fc0c3e2cc15d8772d59494db54e6c010217f60eede4e6905f0df49ee", func := "gooseneck/goosenecklaw09.ScheduleOrders", spec := "scheduleOrders", unfollowed := true, recurses := true, apart := false, narrowed := true }
def ScheduleOrdersUptoSaid : Prop := scheduleOrdersUptoRow.holds Try.pinned (OpenSpec.upto scheduleOrdersSpec)

end Rows
end Go.Proofs.Ytoiohkjomcbadaa
