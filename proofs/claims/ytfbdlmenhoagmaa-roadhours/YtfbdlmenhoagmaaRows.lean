/-
  No cell of these rows narrows 'for every input' (looked for: loops, veiled, ifaces, maps, wideKeys, modest, calm, conditions, laid).
  DERIVED. THE GIVEN ROWS OF THIS SEAT. 10 by the template 'for every input the law returns true; each argument reads behind the call as it read before'; 0 by the template 'total and deterministic' (their statements: YtfbdlmenhoagmaaTotals.lean).
  GIVEN WITH THE SEED: the statements are not yours to turn. If you find one false, say at which input.
  Laid BY PROGRAM, IN A SANDBOX (cutbox-rows.mjs): the forced cells as the released guide's own fill.sh prints them over the translation 33167623af2abc04… (all of the seat's roots in one cut). By AI agents, Wed Nov 11 2026. No macro, syntax, notation, axiom, sorry.
-/
import Derived.Test.YtfbdlmenhoagmaaChecked
import GoSem.Claim
import GoSem.ClaimJoined
import GoSem.ClaimMapViews
import Derived.JoinedTies
import Derived.KernelRfl
namespace Go.Proofs.Ytfbdlmenhoagmaa
/- THE CELL 'sum', in the pinned program and in every row, IS THE sha256 OF THE DUMP (.gsa) THAT YtfbdlmenhoagmaaProg.lean LOADS. Nothing in Lean hashes anything: it is a label: what it is worth is what the hold of that sum in a sandbox is worth. -/
noncomputable def Try.pinned : Pinned := { name := "ytfbdlmenhoagmaa", sum := "33167623af2abc0469b6b08c6ad986bb516a64547e86855ff9652027fb61caa2", checked := Try.checked }
namespace Rows
def none {H : Type} : Left H := { results := [], args := [] }

/-- 'goosenecklaw07.RoadMore': WHATEVER THE INPUT: true; the input reads as it did. -/
def roadMoreSpec : ChangeSpec := { name := "roadMore", fn := fun _ => fun
  | [d1, d2, d3, d4, d5, d6, d7] => { results := [.lit (.bool true)], args := [d1, d2, d3, d4, d5, d6, d7] }
  | _ => none }
def roadMoreRow : OpenClaim := { program := "ytfbdlmenhoagmaa", sum := "33167623af2abc0469b6b08c6ad986bb516a64547e86855ff9652027fb61caa2", func := "gooseneck/goosenecklaw07.RoadMore", spec := "roadMore", unfollowed := true, recurses := true, plainKeys := false, apart := false }
def RoadMoreSaid : Prop := roadMoreRow.holds Try.pinned (OpenSpec.ofChange roadMoreSpec)

/-- ITS FALSE NEIGHBOUR: 'it returns false'. Refute it at one input. -/
def roadMoreWrong : ChangeSpec := { name := "roadMore", fn := fun _ => fun
  | [d1, d2, d3, d4, d5, d6, d7] => { results := [.lit (.bool false)], args := [d1, d2, d3, d4, d5, d6, d7] }
  | _ => none }
def RoadMoreWrongFalsely : Prop := roadMoreRow.holds Try.pinned (OpenSpec.ofChange roadMoreWrong)

/-- 'goosenecklaw07.RoadNeeded': WHATEVER THE INPUT: true; the input reads as it did. -/
def roadNeededSpec : ChangeSpec := { name := "roadNeeded", fn := fun _ => fun
  | [d1, d2, d3] => { results := [.lit (.bool true)], args := [d1, d2, d3] }
  | _ => none }
def roadNeededRow : OpenClaim := { program := "ytfbdlmenhoagmaa", sum := "33167623af2abc0469b6b08c6ad986bb516a64547e86855ff9652027fb61caa2", func := "gooseneck/goosenecklaw07.RoadNeeded", spec := "roadNeeded", unfollowed := true, recurses := true, plainKeys := false, apart := false }
def RoadNeededSaid : Prop := roadNeededRow.holds Try.pinned (OpenSpec.ofChange roadNeededSpec)

/-- ITS FALSE NEIGHBOUR: 'it returns false'. Refute it at one input. -/
def roadNeededWrong : ChangeSpec := { name := "roadNeeded", fn := fun _ => fun
  | [d1, d2, d3] => { results := [.lit (.bool false)], args := [d1, d2, d3] }
  | _ => none }
def RoadNeededWrongFalsely : Prop := roadNeededRow.holds Try.pinned (OpenSpec.ofChange roadNeededWrong)

/-- 'goosenecklaw07.RoadCut': WHATEVER THE INPUT: true; the input reads as it did. -/
def roadCutSpec : ChangeSpec := { name := "roadCut", fn := fun _ => fun
  | [d1, d2, d3, d4, d5] => { results := [.lit (.bool true)], args := [d1, d2, d3, d4, d5] }
  | _ => none }
def roadCutRow : OpenClaim := { program := "ytfbdlmenhoagmaa", sum := "33167623af2abc0469b6b08c6ad986bb516a64547e86855ff9652027fb61caa2", func := "gooseneck/goosenecklaw07.RoadCut", spec := "roadCut", unfollowed := true, recurses := true, plainKeys := false, apart := false }
def RoadCutSaid : Prop := roadCutRow.holds Try.pinned (OpenSpec.ofChange roadCutSpec)

/-- ITS FALSE NEIGHBOUR: 'it returns false'. Refute it at one input. -/
def roadCutWrong : ChangeSpec := { name := "roadCut", fn := fun _ => fun
  | [d1, d2, d3, d4, d5] => { results := [.lit (.bool false)], args := [d1, d2, d3, d4, d5] }
  | _ => none }
def RoadCutWrongFalsely : Prop := roadCutRow.holds Try.pinned (OpenSpec.ofChange roadCutWrong)

/-- 'goosenecklaw07.RoadCauses': WHATEVER THE INPUT: true; the input reads as it did. -/
def roadCausesSpec : ChangeSpec := { name := "roadCauses", fn := fun _ => fun
  | [d1, d2, d3, d4, d5, d6, d7] => { results := [.lit (.bool true)], args := [d1, d2, d3, d4, d5, d6, d7] }
  | _ => none }
def roadCausesRow : OpenClaim := { program := "ytfbdlmenhoagmaa", sum := "33167623af2abc0469b6b08c6ad986bb516a64547e86855ff9652027fb61caa2", func := "gooseneck/goosenecklaw07.RoadCauses", spec := "roadCauses", unfollowed := true, recurses := true, plainKeys := false, apart := false }
def RoadCausesSaid : Prop := roadCausesRow.holds Try.pinned (OpenSpec.ofChange roadCausesSpec)

/-- ITS FALSE NEIGHBOUR: 'it returns false'. Refute it at one input. -/
def roadCausesWrong : ChangeSpec := { name := "roadCauses", fn := fun _ => fun
  | [d1, d2, d3, d4, d5, d6, d7] => { results := [.lit (.bool false)], args := [d1, d2, d3, d4, d5, d6, d7] }
  | _ => none }
def RoadCausesWrongFalsely : Prop := roadCausesRow.holds Try.pinned (OpenSpec.ofChange roadCausesWrong)

/-- 'goosenecklaw07.RoadLeast': WHATEVER THE INPUT: true; the input reads as it did. -/
def roadLeastSpec : ChangeSpec := { name := "roadLeast", fn := fun _ => fun
  | [d1, d2, d3, d4] => { results := [.lit (.bool true)], args := [d1, d2, d3, d4] }
  | _ => none }
def roadLeastRow : OpenClaim := { program := "ytfbdlmenhoagmaa", sum := "33167623af2abc0469b6b08c6ad986bb516a64547e86855ff9652027fb61caa2", func := "gooseneck/goosenecklaw07.RoadLeast", spec := "roadLeast", unfollowed := true, recurses := true, plainKeys := false, apart := false }
def RoadLeastSaid : Prop := roadLeastRow.holds Try.pinned (OpenSpec.ofChange roadLeastSpec)

/-- ITS FALSE NEIGHBOUR: 'it returns false'. Refute it at one input. -/
def roadLeastWrong : ChangeSpec := { name := "roadLeast", fn := fun _ => fun
  | [d1, d2, d3, d4] => { results := [.lit (.bool false)], args := [d1, d2, d3, d4] }
  | _ => none }
def RoadLeastWrongFalsely : Prop := roadLeastRow.holds Try.pinned (OpenSpec.ofChange roadLeastWrong)

/-- 'goosenecklaw07.RoadBounds': WHATEVER THE INPUT: true; the input reads as it did. -/
def roadBoundsSpec : ChangeSpec := { name := "roadBounds", fn := fun _ => fun
  | [d1, d2, d3, d4, d5] => { results := [.lit (.bool true)], args := [d1, d2, d3, d4, d5] }
  | _ => none }
def roadBoundsRow : OpenClaim := { program := "ytfbdlmenhoagmaa", sum := "33167623af2abc0469b6b08c6ad986bb516a64547e86855ff9652027fb61caa2", func := "gooseneck/goosenecklaw07.RoadBounds", spec := "roadBounds", unfollowed := true, recurses := true, plainKeys := false, apart := false }
def RoadBoundsSaid : Prop := roadBoundsRow.holds Try.pinned (OpenSpec.ofChange roadBoundsSpec)

/-- ITS FALSE NEIGHBOUR: 'it returns false'. Refute it at one input. -/
def roadBoundsWrong : ChangeSpec := { name := "roadBounds", fn := fun _ => fun
  | [d1, d2, d3, d4, d5] => { results := [.lit (.bool false)], args := [d1, d2, d3, d4, d5] }
  | _ => none }
def RoadBoundsWrongFalsely : Prop := roadBoundsRow.holds Try.pinned (OpenSpec.ofChange roadBoundsWrong)

/-- 'goosenecklaw07.RoadBelow': WHATEVER THE INPUT: true; the input reads as it did. -/
def roadBelowSpec : ChangeSpec := { name := "roadBelow", fn := fun _ => fun
  | [d1, d2, d3, d4, d5] => { results := [.lit (.bool true)], args := [d1, d2, d3, d4, d5] }
  | _ => none }
def roadBelowRow : OpenClaim := { program := "ytfbdlmenhoagmaa", sum := "33167623af2abc0469b6b08c6ad986bb516a64547e86855ff9652027fb61caa2", func := "gooseneck/goosenecklaw07.RoadBelow", spec := "roadBelow", unfollowed := true, recurses := true, plainKeys := false, apart := false }
def RoadBelowSaid : Prop := roadBelowRow.holds Try.pinned (OpenSpec.ofChange roadBelowSpec)

/-- ITS FALSE NEIGHBOUR: 'it returns false'. Refute it at one input. -/
def roadBelowWrong : ChangeSpec := { name := "roadBelow", fn := fun _ => fun
  | [d1, d2, d3, d4, d5] => { results := [.lit (.bool false)], args := [d1, d2, d3, d4, d5] }
  | _ => none }
def RoadBelowWrongFalsely : Prop := roadBelowRow.holds Try.pinned (OpenSpec.ofChange roadBelowWrong)

/-- 'goosenecklaw07.RoadCheapest': WHATEVER THE INPUT: true; the input reads as it did. -/
def roadCheapestSpec : ChangeSpec := { name := "roadCheapest", fn := fun _ => fun
  | [d1, d2, d3, d4, d5, d6] => { results := [.lit (.bool true)], args := [d1, d2, d3, d4, d5, d6] }
  | _ => none }
def roadCheapestRow : OpenClaim := { program := "ytfbdlmenhoagmaa", sum := "33167623af2abc0469b6b08c6ad986bb516a64547e86855ff9652027fb61caa2", func := "gooseneck/goosenecklaw07.RoadCheapest", spec := "roadCheapest", unfollowed := true, recurses := true, plainKeys := false, apart := false }
def RoadCheapestSaid : Prop := roadCheapestRow.holds Try.pinned (OpenSpec.ofChange roadCheapestSpec)

/-- ITS FALSE NEIGHBOUR: 'it returns false'. Refute it at one input. -/
def roadCheapestWrong : ChangeSpec := { name := "roadCheapest", fn := fun _ => fun
  | [d1, d2, d3, d4, d5, d6] => { results := [.lit (.bool false)], args := [d1, d2, d3, d4, d5, d6] }
  | _ => none }
def RoadCheapestWrongFalsely : Prop := roadCheapestRow.holds Try.pinned (OpenSpec.ofChange roadCheapestWrong)

/-- 'goosenecklaw07.RoadSoonest': WHATEVER THE INPUT: true; the input reads as it did. -/
def roadSoonestSpec : ChangeSpec := { name := "roadSoonest", fn := fun _ => fun
  | [d1, d2, d3, d4, d5, d6, d7] => { results := [.lit (.bool true)], args := [d1, d2, d3, d4, d5, d6, d7] }
  | _ => none }
def roadSoonestRow : OpenClaim := { program := "ytfbdlmenhoagmaa", sum := "33167623af2abc0469b6b08c6ad986bb516a64547e86855ff9652027fb61caa2", func := "gooseneck/goosenecklaw07.RoadSoonest", spec := "roadSoonest", unfollowed := true, recurses := true, plainKeys := false, apart := false }
def RoadSoonestSaid : Prop := roadSoonestRow.holds Try.pinned (OpenSpec.ofChange roadSoonestSpec)

/-- ITS FALSE NEIGHBOUR: 'it returns false'. Refute it at one input. -/
def roadSoonestWrong : ChangeSpec := { name := "roadSoonest", fn := fun _ => fun
  | [d1, d2, d3, d4, d5, d6, d7] => { results := [.lit (.bool false)], args := [d1, d2, d3, d4, d5, d6, d7] }
  | _ => none }
def RoadSoonestWrongFalsely : Prop := roadSoonestRow.holds Try.pinned (OpenSpec.ofChange roadSoonestWrong)

/-- 'goosenecklaw07.RoadHours': WHATEVER THE INPUT: true; the input reads as it did. -/
def roadHoursSpec : ChangeSpec := { name := "roadHours", fn := fun _ => fun
  | [d1, d2, d3, d4, d5, d6, d7, d8] => { results := [.lit (.bool true)], args := [d1, d2, d3, d4, d5, d6, d7, d8] }
  | _ => none }
def roadHoursRow : OpenClaim := { program := "ytfbdlmenhoagmaa", sum := "33167623af2abc0469b6b08c6ad986bb516a64547e86855ff9652027fb61caa2", func := "gooseneck/goosenecklaw07.RoadHours", spec := "roadHours", unfollowed := true, recurses := true, plainKeys := false, apart := false }
def RoadHoursSaid : Prop := roadHoursRow.holds Try.pinned (OpenSpec.ofChange roadHoursSpec)

/-- ITS FALSE NEIGHBOUR: 'it returns false'. Refute it at one input. -/
def roadHoursWrong : ChangeSpec := { name := "roadHours", fn := fun _ => fun
  | [d1, d2, d3, d4, d5, d6, d7, d8] => { results := [.lit (.bool false)], args := [d1, d2, d3, d4, d5, d6, d7, d8] }
  | _ => none }
def RoadHoursWrongFalsely : Prop := roadHoursRow.holds Try.pinned (OpenSpec.ofChange roadHoursWrong)

/- THE SECOND FORM. 'bulk': how many values and letters a reading holds, each counted each time it is reached (what is shared counts as often as it is met; a slice's spare places count too). A statement '..UptoSaid' is the law's where the arguments, and the package variables that the reading takes, are together of bulk at most 1048576: NARROWER than '..Said'. Prove '..Said' where nothing that the law and all that it calls make is longer than what came in: it says more and counts as full. Else prove '..UptoSaid'. A law counts once. -/
mutual
def uptoBulk {H : Type} : DataW H → Nat
  | .lit (.string bytes) => bytes.length + 1
  | .lit _ => 1
  | .nil => 1
  | .ptr d => uptoBulk d + 1
  | .slice elems spare => uptoBulkAll elems + uptoBulkAll spare + 1
  | .agg parts => uptoBulkAll parts + 1
  | .iface _ d => uptoBulk d + 1
  | .map entries => uptoBulkEntries entries + 1
  | .held _ => 1
def uptoBulkAll {H : Type} : List (DataW H) → Nat
  | [] => 0
  | d :: r => uptoBulk d + uptoBulkAll r
def uptoBulkEntries {H : Type} : List (Lit × DataW H) → Nat
  | [] => 0
  | x :: r => uptoBulkEntry x + uptoBulkEntries r
def uptoBulkEntry {H : Type} : Lit × DataW H → Nat
  | (.string bytes, d) => bytes.length + uptoBulk d + 1
  | (_, d) => uptoBulk d + 1
 end
def uptoSmall : (H : Type) → List (DataW H) → Bool := fun _ ds => decide (uptoBulkAll ds ≤ 1048576)
def OpenSpec.upto (s : _root_.Go.ChangeSpec) : _root_.Go.OpenSpec := { _root_.Go.OpenSpec.ofChange s with cond := some uptoSmall }

/-- 'goosenecklaw07.RoadMore', WHERE WHAT IT READS IS OF BULK AT MOST 1048576: true; the input reads as it did. -/
def roadMoreUptoRow : OpenClaim := { program := "ytfbdlmenhoagmaa", sum := "33167623af2abc0469b6b08c6ad986bb516a64547e86855ff9652027fb61caa2", func := "gooseneck/goosenecklaw07.RoadMore", spec := "roadMore", unfollowed := true, recurses := true, plainKeys := false, apart := false, narrowed := true }
def RoadMoreUptoSaid : Prop := roadMoreUptoRow.holds Try.pinned (OpenSpec.upto roadMoreSpec)

/-- 'goosenecklaw07.RoadNeeded', WHERE WHAT IT READS IS OF BULK AT MOST 1048576: true; the input reads as it did. -/
def roadNeededUptoRow : OpenClaim := { program := "ytfbdlmenhoagmaa", sum := "33167623af2abc0469b6b08c6ad986bb516a64547e86855ff9652027fb61caa2", func := "gooseneck/goosenecklaw07.RoadNeeded", spec := "roadNeeded", unfollowed := true, recurses := true, plainKeys := false, apart := false, narrowed := true }
def RoadNeededUptoSaid : Prop := roadNeededUptoRow.holds Try.pinned (OpenSpec.upto roadNeededSpec)

/-- 'goosenecklaw07.RoadCut', WHERE WHAT IT READS IS OF BULK AT MOST 1048576: true; the input reads as it did. -/
def roadCutUptoRow : OpenClaim := { program := "ytfbdlmenhoagmaa", sum := "33167623af2abc0469b6b08c6ad986bb516a64547e86855ff9652027fb61caa2", func := "gooseneck/goosenecklaw07.RoadCut", spec := "roadCut", unfollowed := true, recurses := true, plainKeys := false, apart := false, narrowed := true }
def RoadCutUptoSaid : Prop := roadCutUptoRow.holds Try.pinned (OpenSpec.upto roadCutSpec)

/-- 'goosenecklaw07.RoadCauses', WHERE WHAT IT READS IS OF BULK AT MOST 1048576: true; the input reads as it did. -/
def roadCausesUptoRow : OpenClaim := { program := "ytfbdlmenhoagmaa", sum := "33167623af2abc0469b6b08c6ad986bb516a64547e86855ff9652027fb61caa2", func := "gooseneck/goosenecklaw07.RoadCauses", spec := "roadCauses", unfollowed := true, recurses := true, plainKeys := false, apart := false, narrowed := true }
def RoadCausesUptoSaid : Prop := roadCausesUptoRow.holds Try.pinned (OpenSpec.upto roadCausesSpec)

/-- 'goosenecklaw07.RoadLeast', WHERE WHAT IT READS IS OF BULK AT MOST 1048576: true; the input reads as it did. -/
def roadLeastUptoRow : OpenClaim := { program := "ytfbdlmenhoagmaa", sum := "33167623af2abc0469b6b08c6ad986bb516a64547e86855ff9652027fb61caa2", func := "gooseneck/goosenecklaw07.RoadLeast", spec := "roadLeast", unfollowed := true, recurses := true, plainKeys := false, apart := false, narrowed := true }
def RoadLeastUptoSaid : Prop := roadLeastUptoRow.holds Try.pinned (OpenSpec.upto roadLeastSpec)

/-- 'goosenecklaw07.RoadBounds', WHERE WHAT IT READS IS OF BULK AT MOST 1048576: true; the input reads as it did. -/
def roadBoundsUptoRow : OpenClaim := { program := "ytfbdlmenhoagmaa", sum := "33167623af2abc0469b6b08c6ad986bb516a64547e86855ff9652027fb61caa2", func := "gooseneck/goosenecklaw07.RoadBounds", spec := "roadBounds", unfollowed := true, recurses := true, plainKeys := false, apart := false, narrowed := true }
def RoadBoundsUptoSaid : Prop := roadBoundsUptoRow.holds Try.pinned (OpenSpec.upto roadBoundsSpec)

/-- 'goosenecklaw07.RoadBelow', WHERE WHAT IT READS IS OF BULK AT MOST 1048576: true; the input reads as it did. -/
def roadBelowUptoRow : OpenClaim := { program := "ytfbdlmenhoagmaa", sum := "33167623af2abc0469b6b08c6ad986bb516a64547e86855ff9652027fb61caa2", func := "gooseneck/goosenecklaw07.RoadBelow", spec := "roadBelow", unfollowed := true, recurses := true, plainKeys := false, apart := false, narrowed := true }
def RoadBelowUptoSaid : Prop := roadBelowUptoRow.holds Try.pinned (OpenSpec.upto roadBelowSpec)

/-- 'goosenecklaw07.RoadCheapest', WHERE WHAT IT READS IS OF BULK AT MOST 1048576: true; the input reads as it did. -/
def roadCheapestUptoRow : OpenClaim := { program := "ytfbdlmenhoagmaa", sum := "33167623af2abc0469b6b08c6ad986bb516a64547e86855ff9652027fb61caa2", func := "gooseneck/goosenecklaw07.RoadCheapest", spec := "roadCheapest", unfollowed := true, recurses := true, plainKeys := false, apart := false, narrowed := true }
def RoadCheapestUptoSaid : Prop := roadCheapestUptoRow.holds Try.pinned (OpenSpec.upto roadCheapestSpec)

/-- 'goosenecklaw07.RoadSoonest', WHERE WHAT IT READS IS OF BULK AT MOST 1048576: true; the input reads as it did. -/
def roadSoonestUptoRow : OpenClaim := { program := "ytfbdlmenhoagmaa", sum := "33167623af2abc0469b6b08c6ad986bb516a64547e86855ff9652027fb61caa2", func := "gooseneck/goosenecklaw07.RoadSoonest", spec := "roadSoonest", unfollowed := true, recurses := true, plainKeys := false, apart := false, narrowed := true }
def RoadSoonestUptoSaid : Prop := roadSoonestUptoRow.holds Try.pinned (OpenSpec.upto roadSoonestSpec)

/-- 'goosenecklaw07.RoadHours', WHERE WHAT IT READS IS OF BULK AT MOST 1048576: true; the input reads as it did. -/
def roadHoursUptoRow : OpenClaim := { program := "ytfbdlmenhoagmaa", sum := "33167623af2abc0469b6b08c6ad986bb516a64547e86855ff9652027fb61caa2", func := "gooseneck/goosenecklaw07.RoadHours", spec := "roadHours", unfollowed := true, recurses := true, plainKeys := false, apart := false, narrowed := true }
def RoadHoursUptoSaid : Prop := roadHoursUptoRow.holds Try.pinned (OpenSpec.upto roadHoursSpec)

end Rows
end Go.Proofs.Ytfbdlmenhoagmaa
