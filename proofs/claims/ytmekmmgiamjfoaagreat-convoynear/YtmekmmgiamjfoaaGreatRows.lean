/-
  No cell of these rows narrows 'for every input' (looked for: loops, veiled, ifaces, maps, wideKeys, modest, calm, conditions, laid).
  DERIVED. THE GIVEN ROWS OF THIS SEAT. 6 by the template 'for every input the law returns true; each argument reads behind the call as it read before'; 0 by the template 'total and deterministic' (their statements: YtmekmmgiamjfoaaGreatTotals.lean).
  GIVEN WITH THE SEED: the statements are not yours to turn. If you find one false, say at which input.
  Laid BY PROGRAM, IN A SANDBOX (cutbox-rows.mjs): the forced cells as the released guide's own fill.sh prints them over the translation db26865c3fbe4218… (all of the seat's roots in one cut). By AI agents, Wed Nov 11 2026. No macro, syntax, notation, axiom, sorry.
-/
import Derived.Test.YtmekmmgiamjfoaaGreatChecked
import GoSem.Claim
import GoSem.ClaimJoined
import GoSem.ClaimMapViews
import Derived.JoinedTies
import Derived.KernelRfl
namespace Go.Proofs.YtmekmmgiamjfoaaGreat
/- THE CELL 'sum', in the pinned program and in every row, IS THE sha256 OF THE DUMP (.gsa) THAT YtmekmmgiamjfoaaGreatProg.lean LOADS. Nothing in Lean hashes anything: it is a label: what it is worth is what the hold of that sum in a sandbox is worth. -/
noncomputable def Tryz.pinned : Pinned := { name := "ytmekmmgiamjfoaagreat", sum := "db26865c3fbe4218eb6a8112cae3627d2550733704dd92265f54d8798ebe012c", checked := Tryz.checked }
namespace Rows
def none {H : Type} : Left H := { results := [], args := [] }

/-- 'goosenecklaw10.ConvoyEarliest': WHATEVER THE INPUT: true; the input reads as it did. -/
def convoyEarliestSpec : ChangeSpec := { name := "convoyEarliest", fn := fun _ => fun
  | [d1, d2, d3, d4, d5, d6] => { results := [.lit (.bool true)], args := [d1, d2, d3, d4, d5, d6] }
  | _ => none }
def convoyEarliestRow : OpenClaim := { program := "ytmekmmgiamjfoaagreat", sum := "db26865c3fbe4218eb6a8112cae3627d2550733704dd92265f54d8798ebe012c", func := "gooseneck/goosenecklaw10.ConvoyEarliest", spec := "convoyEarliest", unfollowed := true, recurses := true, apart := false }
def ConvoyEarliestSaid : Prop := convoyEarliestRow.holds Tryz.pinned (OpenSpec.ofChange convoyEarliestSpec)

/-- ITS FALSE NEIGHBOUR: 'it returns false'. Refute it at one input. -/
def convoyEarliestWrong : ChangeSpec := { name := "convoyEarliest", fn := fun _ => fun
  | [d1, d2, d3, d4, d5, d6] => { results := [.lit (.bool false)], args := [d1, d2, d3, d4, d5, d6] }
  | _ => none }
def ConvoyEarliestWrongFalsely : Prop := convoyEarliestRow.holds Tryz.pinned (OpenSpec.ofChange convoyEarliestWrong)

/-- 'goosenecklaw10.ConvoyKept': WHATEVER THE INPUT: true; the input reads as it did. -/
def convoyKeptSpec : ChangeSpec := { name := "convoyKept", fn := fun _ => fun
  | [d1, d2, d3, d4, d5] => { results := [.lit (.bool true)], args := [d1, d2, d3, d4, d5] }
  | _ => none }
def convoyKeptRow : OpenClaim := { program := "ytmekmmgiamjfoaagreat", sum := "db26865c3fbe4218eb6a8112cae3627d2550733704dd92265f54d8798ebe012c", func := "gooseneck/goosenecklaw10.ConvoyKept", spec := "convoyKept", unfollowed := true, recurses := true, apart := false }
def ConvoyKeptSaid : Prop := convoyKeptRow.holds Tryz.pinned (OpenSpec.ofChange convoyKeptSpec)

/-- ITS FALSE NEIGHBOUR: 'it returns false'. Refute it at one input. -/
def convoyKeptWrong : ChangeSpec := { name := "convoyKept", fn := fun _ => fun
  | [d1, d2, d3, d4, d5] => { results := [.lit (.bool false)], args := [d1, d2, d3, d4, d5] }
  | _ => none }
def ConvoyKeptWrongFalsely : Prop := convoyKeptRow.holds Tryz.pinned (OpenSpec.ofChange convoyKeptWrong)

/-- 'goosenecklaw10.ConvoyPlays': WHATEVER THE INPUT: true; the input reads as it did. -/
def convoyPlaysSpec : ChangeSpec := { name := "convoyPlays", fn := fun _ => fun
  | [d1, d2, d3, d4, d5] => { results := [.lit (.bool true)], args := [d1, d2, d3, d4, d5] }
  | _ => none }
def convoyPlaysRow : OpenClaim := { program := "ytmekmmgiamjfoaagreat", sum := "db26865c3fbe4218eb6a8112cae3627d2550733704dd92265f54d8798ebe012c", func := "gooseneck/goosenecklaw10.ConvoyPlays", spec := "convoyPlays", unfollowed := true, recurses := true, apart := false }
def ConvoyPlaysSaid : Prop := convoyPlaysRow.holds Tryz.pinned (OpenSpec.ofChange convoyPlaysSpec)

/-- ITS FALSE NEIGHBOUR: 'it returns false'. Refute it at one input. -/
def convoyPlaysWrong : ChangeSpec := { name := "convoyPlays", fn := fun _ => fun
  | [d1, d2, d3, d4, d5] => { results := [.lit (.bool false)], args := [d1, d2, d3, d4, d5] }
  | _ => none }
def ConvoyPlaysWrongFalsely : Prop := convoyPlaysRow.holds Tryz.pinned (OpenSpec.ofChange convoyPlaysWrong)

/-- 'goosenecklaw10.ConvoyAlone': WHATEVER THE INPUT: true; the input reads as it did. -/
def convoyAloneSpec : ChangeSpec := { name := "convoyAlone", fn := fun _ => fun
  | [d1, d2, d3, d4, d5, d6] => { results := [.lit (.bool true)], args := [d1, d2, d3, d4, d5, d6] }
  | _ => none }
def convoyAloneRow : OpenClaim := { program := "ytmekmmgiamjfoaagreat", sum := "db26865c3fbe4218eb6a8112cae3627d2550733704dd92265f54d8798ebe012c", func := "gooseneck/goosenecklaw10.ConvoyAlone", spec := "convoyAlone", unfollowed := true, recurses := true, apart := false }
def ConvoyAloneSaid : Prop := convoyAloneRow.holds Tryz.pinned (OpenSpec.ofChange convoyAloneSpec)

/-- ITS FALSE NEIGHBOUR: 'it returns false'. Refute it at one input. -/
def convoyAloneWrong : ChangeSpec := { name := "convoyAlone", fn := fun _ => fun
  | [d1, d2, d3, d4, d5, d6] => { results := [.lit (.bool false)], args := [d1, d2, d3, d4, d5, d6] }
  | _ => none }
def ConvoyAloneWrongFalsely : Prop := convoyAloneRow.holds Tryz.pinned (OpenSpec.ofChange convoyAloneWrong)

/-- 'goosenecklaw10.ConvoyNear': WHATEVER THE INPUT: true; the input reads as it did. -/
def convoyNearSpec : ChangeSpec := { name := "convoyNear", fn := fun _ => fun
  | [d1, d2, d3] => { results := [.lit (.bool true)], args := [d1, d2, d3] }
  | _ => none }
def convoyNearRow : OpenClaim := { program := "ytmekmmgiamjfoaagreat", sum := "db26865c3fbe4218eb6a8112cae3627d2550733704dd92265f54d8798ebe012c", func := "gooseneck/goosenecklaw10.ConvoyNear", spec := "convoyNear", unfollowed := true, recurses := true, apart := false }
def ConvoyNearSaid : Prop := convoyNearRow.holds Tryz.pinned (OpenSpec.ofChange convoyNearSpec)

/-- ITS FALSE NEIGHBOUR: 'it returns false'. Refute it at one input. -/
def convoyNearWrong : ChangeSpec := { name := "convoyNear", fn := fun _ => fun
  | [d1, d2, d3] => { results := [.lit (.bool false)], args := [d1, d2, d3] }
  | _ => none }
def ConvoyNearWrongFalsely : Prop := convoyNearRow.holds Tryz.pinned (OpenSpec.ofChange convoyNearWrong)

/-- 'goosenecklaw10.ConvoyTracks': WHATEVER THE INPUT: true; the input reads as it did. -/
def convoyTracksSpec : ChangeSpec := { name := "convoyTracks", fn := fun _ => fun
  | [d1, d2, d3, d4] => { results := [.lit (.bool true)], args := [d1, d2, d3, d4] }
  | _ => none }
def convoyTracksRow : OpenClaim := { program := "ytmekmmgiamjfoaagreat", sum := "db26865c3fbe4218eb6a8112cae3627d2550733704dd92265f54d8798ebe012c", func := "gooseneck/goosenecklaw10.ConvoyTracks", spec := "convoyTracks", unfollowed := true, recurses := true, apart := false }
def ConvoyTracksSaid : Prop := convoyTracksRow.holds Tryz.pinned (OpenSpec.ofChange convoyTracksSpec)

/-- ITS FALSE NEIGHBOUR: 'it returns false'. Refute it at one input. -/
def convoyTracksWrong : ChangeSpec := { name := "convoyTracks", fn := fun _ => fun
  | [d1, d2, d3, d4] => { results := [.lit (.bool false)], args := [d1, d2, d3, d4] }
  | _ => none }
def ConvoyTracksWrongFalsely : Prop := convoyTracksRow.holds Tryz.pinned (OpenSpec.ofChange convoyTracksWrong)

/- THE SECOND FORM. 'bulk': how many values and letters a reading holds, each counted each time it is reached (what is shared counts as often as it is met; a slice's spare places count too). A statement '..UptoSaid' is the law's where the arguments, and the package variables that the reading takes, are together of bulk at most 1048576: NARROWER than '..Said'. Prove '..Said' where nothing that the law and all that it calls make is longer than what came in: it says more and counts as full. Else prove '..UptoSaid'. A law counts once. -/
mutual
def uptoBulk {H : Type} : DataW H → Nat
  | .lit (.string bytes) => bytes.length + 1
  | .lit _ => 1
  | .nil => 1
  | .ptr d => uptoBulk d + 1
  | .slice elems spare => uptoBulkAll elems + uptoBulkAll spare + 1
  | .agg parts => uptoBulkAll parts + 1
  | .iface _ d => uptoBulk d + 1
  | .map entries => uptoBulkEntries entries + 1
  | .held _ => 1
def uptoBulkAll {H : Type} : List (DataW H) → Nat
  | [] => 0
  | d :: r => uptoBulk d + uptoBulkAll r
def uptoBulkEntries {H : Type} : List (Lit × DataW H) → Nat
  | [] => 0
  | x :: r => uptoBulkEntry x + uptoBulkEntries r
def uptoBulkEntry {H : Type} : Lit × DataW H → Nat
  | (.string bytes, d) => bytes.length + uptoBulk d + 1
  | (_, d) => uptoBulk d + 1
 end
def uptoSmall : (H : Type) → List (DataW H) → Bool := fun _ ds => decide (uptoBulkAll ds ≤ 1048576)
def OpenSpec.upto (s : _root_.Go.ChangeSpec) : _root_.Go.OpenSpec := { _root_.Go.OpenSpec.ofChange s with cond := some uptoSmall }

/-- 'goosenecklaw10.ConvoyEarliest', WHERE WHAT IT READS IS OF BULK AT MOST 1048576: true; the input reads as it did. -/
def convoyEarliestUptoRow : OpenClaim := { program := "ytmekmmgiamjfoaagreat", sum := "db26865c3fbe4218eb6a8112cae3627d2550733704dd92265f54d8798ebe012c", func := "gooseneck/goosenecklaw10.ConvoyEarliest", spec := "convoyEarliest", unfollowed := true, recurses := true, apart := false, narrowed := true }
def ConvoyEarliestUptoSaid : Prop := convoyEarliestUptoRow.holds Tryz.pinned (OpenSpec.upto convoyEarliestSpec)

/-- 'goosenecklaw10.ConvoyKept', WHERE WHAT IT READS IS OF BULK AT MOST 1048576: true; the input reads as it did. -/
def convoyKeptUptoRow : OpenClaim := { program := "ytmekmmgiamjfoaagreat", sum := "db26865c3fbe4218eb6a8112cae3627d2550733704dd92265f54d8798ebe012c", func := "gooseneck/goosenecklaw10.ConvoyKept", spec := "convoyKept", unfollowed := true, recurses := true, apart := false, narrowed := true }
def ConvoyKeptUptoSaid : Prop := convoyKeptUptoRow.holds Tryz.pinned (OpenSpec.upto convoyKeptSpec)

/-- 'goosenecklaw10.ConvoyPlays', WHERE WHAT IT READS IS OF BULK AT MOST 1048576: true; the input reads as it did. -/
def convoyPlaysUptoRow : OpenClaim := { program := "ytmekmmgiamjfoaagreat", sum := "db26865c3fbe4218eb6a8112cae3627d2550733704dd92265f54d8798ebe012c", func := "gooseneck/goosenecklaw10.ConvoyPlays", spec := "convoyPlays", unfollowed := true, recurses := true, apart := false, narrowed := true }
def ConvoyPlaysUptoSaid : Prop := convoyPlaysUptoRow.holds Tryz.pinned (OpenSpec.upto convoyPlaysSpec)

/-- 'goosenecklaw10.ConvoyAlone', WHERE WHAT IT READS IS OF BULK AT MOST 1048576: true; the input reads as it did. -/
def convoyAloneUptoRow : OpenClaim := { program := "ytmekmmgiamjfoaagreat", sum := "db26865c3fbe4218eb6a8112cae3627d2550733704dd92265f54d8798ebe012c", func := "gooseneck/goosenecklaw10.ConvoyAlone", spec := "convoyAlone", unfollowed := true, recurses := true, apart := false, narrowed := true }
def ConvoyAloneUptoSaid : Prop := convoyAloneUptoRow.holds Tryz.pinned (OpenSpec.upto convoyAloneSpec)

/-- 'goosenecklaw10.ConvoyNear', WHERE WHAT IT READS IS OF BULK AT MOST 1048576: true; the input reads as it did. -/
def convoyNearUptoRow : OpenClaim := { program := "ytmekmmgiamjfoaagreat", sum := "db26865c3fbe4218eb6a8112cae3627d2550733704dd92265f54d8798ebe012c", func := "gooseneck/goosenecklaw10.ConvoyNear", spec := "convoyNear", unfollowed := true, recurses := true, apart := false, narrowed := true }
def ConvoyNearUptoSaid : Prop := convoyNearUptoRow.holds Tryz.pinned (OpenSpec.upto convoyNearSpec)

/-- 'goosenecklaw10.ConvoyTracks', WHERE WHAT IT READS IS OF BULK AT MOST 1048576: true; the input reads as it did. -/
def convoyTracksUptoRow : OpenClaim := { program := "ytmekmmgiamjfoaagreat", sum := "db26865c3fbe4218eb6a8112cae3627d2550733704dd92265f54d8798ebe012c", func := "gooseneck/goosenecklaw10.ConvoyTracks", spec := "convoyTracks", unfollowed := true, recurses := true, apart := false, narrowed := true }
def ConvoyTracksUptoSaid : Prop := convoyTracksUptoRow.holds Tryz.pinned (OpenSpec.upto convoyTracksSpec)

end Rows
end Go.Proofs.YtmekmmgiamjfoaaGreat
