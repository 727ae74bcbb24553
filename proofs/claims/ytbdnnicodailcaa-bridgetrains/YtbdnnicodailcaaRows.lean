/-
  No cell of these rows narrows 'for every input' (looked for: loops, veiled, ifaces, maps, wideKeys, modest, calm, conditions, laid).
  DERIVED. THE GIVEN ROWS OF THIS SEAT. 9 by the template 'for every input the law returns true; each argument reads behind the call as it read before'; 0 by the template 'total and deterministic' (their statements: YtbdnnicodailcaaTotals.lean).
  GIVEN WITH THE SEED: the statements are not yours to turn. If you find one false, say at which input.
  Laid BY PROGRAM, IN A SANDBOX (cutbox-rows.mjs): the forced cells as the released guide's own fill.sh prints them over the translation a41b9f5265d666bc… (all of the seat's roots in one cut). By AI agents, Wed Nov 11 2026. No macro, syntax, notation, axiom, sorry.
-/
import Derived.Test.YtbdnnicodailcaaChecked
import GoSem.Claim
import GoSem.ClaimJoined
import GoSem.ClaimMapViews
import Derived.JoinedTies
import Derived.KernelRfl
namespace Go.Proofs.Ytbdnnicodailcaa
/- THE CELL 'sum', in the pinned program and in every row, IS THE sha256 OF THE DUMP (.gsa) THAT YtbdnnicodailcaaProg.lean LOADS. Nothing in Lean hashes anything: it is a label: what it is worth is what the hold of that sum in a sandbox is worth. -/
noncomputable def Try.pinned : Pinned := { name := "ytbdnnicodailcaa", sum := "a41b9f5265d666bcad41e658d5aec9747b4973e04e3efd620c233eb68b01c606", checked := Try.checked }
namespace Rows
def none {H : Type} : Left H := { results := [], args := [] }

/-- 'goosenecklaw06.BridgeMirrors': WHATEVER THE INPUT: true; the input reads as it did. -/
def bridgeMirrorsSpec : ChangeSpec := { name := "bridgeMirrors", fn := fun _ => fun
  | [d1, d2, d3] => { results := [.lit (.bool true)], args := [d1, d2, d3] }
  | _ => none }
def bridgeMirrorsRow : OpenClaim := { program := "ytbdnnicodailcaa", sum := "a41b9f5265d666bcad41e658d5aec9747b4973e04e3efd620c233eb68b01c606", func := "gooseneck/goosenecklaw06.BridgeMirrors", spec := "bridgeMirrors", unfollowed := true, recurses := true, named := ["math/bits.divideError", "math/bits.overflowError"], apart := false }
def BridgeMirrorsSaid : Prop := bridgeMirrorsRow.holds Try.pinned (OpenSpec.ofChange bridgeMirrorsSpec)

/-- ITS FALSE NEIGHBOUR: 'it returns false'. Refute it at one input. -/
def bridgeMirrorsWrong : ChangeSpec := { name := "bridgeMirrors", fn := fun _ => fun
  | [d1, d2, d3] => { results := [.lit (.bool false)], args := [d1, d2, d3] }
  | _ => none }
def BridgeMirrorsWrongFalsely : Prop := bridgeMirrorsRow.holds Try.pinned (OpenSpec.ofChange bridgeMirrorsWrong)

/-- 'goosenecklaw06.BridgeAdds': WHATEVER THE INPUT: true; the input reads as it did. -/
def bridgeAddsSpec : ChangeSpec := { name := "bridgeAdds", fn := fun _ => fun
  | [d1, d2, d3, d4, d5, d6] => { results := [.lit (.bool true)], args := [d1, d2, d3, d4, d5, d6] }
  | _ => none }
def bridgeAddsRow : OpenClaim := { program := "ytbdnnicodailcaa", sum := "a41b9f5265d666bcad41e658d5aec9747b4973e04e3efd620c233eb68b01c606", func := "gooseneck/goosenecklaw06.BridgeAdds", spec := "bridgeAdds", unfollowed := true, recurses := true, named := ["math/bits.divideError", "math/bits.overflowError"], apart := false }
def BridgeAddsSaid : Prop := bridgeAddsRow.holds Try.pinned (OpenSpec.ofChange bridgeAddsSpec)

/-- ITS FALSE NEIGHBOUR: 'it returns false'. Refute it at one input. -/
def bridgeAddsWrong : ChangeSpec := { name := "bridgeAdds", fn := fun _ => fun
  | [d1, d2, d3, d4, d5, d6] => { results := [.lit (.bool false)], args := [d1, d2, d3, d4, d5, d6] }
  | _ => none }
def BridgeAddsWrongFalsely : Prop := bridgeAddsRow.holds Try.pinned (OpenSpec.ofChange bridgeAddsWrong)

/-- 'goosenecklaw06.BridgeWears': WHATEVER THE INPUT: true; the input reads as it did. -/
def bridgeWearsSpec : ChangeSpec := { name := "bridgeWears", fn := fun _ => fun
  | [d1, d2, d3, d4, d5] => { results := [.lit (.bool true)], args := [d1, d2, d3, d4, d5] }
  | _ => none }
def bridgeWearsRow : OpenClaim := { program := "ytbdnnicodailcaa", sum := "a41b9f5265d666bcad41e658d5aec9747b4973e04e3efd620c233eb68b01c606", func := "gooseneck/goosenecklaw06.BridgeWears", spec := "bridgeWears", unfollowed := true, recurses := true, named := ["math/bits.divideError", "math/bits.overflowError"], apart := false }
def BridgeWearsSaid : Prop := bridgeWearsRow.holds Try.pinned (OpenSpec.ofChange bridgeWearsSpec)

/-- ITS FALSE NEIGHBOUR: 'it returns false'. Refute it at one input. -/
def bridgeWearsWrong : ChangeSpec := { name := "bridgeWears", fn := fun _ => fun
  | [d1, d2, d3, d4, d5] => { results := [.lit (.bool false)], args := [d1, d2, d3, d4, d5] }
  | _ => none }
def BridgeWearsWrongFalsely : Prop := bridgeWearsRow.holds Try.pinned (OpenSpec.ofChange bridgeWearsWrong)

/-- 'goosenecklaw06.BridgeGround': WHATEVER THE INPUT: true; the input reads as it did. -/
def bridgeGroundSpec : ChangeSpec := { name := "bridgeGround", fn := fun _ => fun
  | [d1, d2, d3, d4, d5, d6] => { results := [.lit (.bool true)], args := [d1, d2, d3, d4, d5, d6] }
  | _ => none }
def bridgeGroundRow : OpenClaim := { program := "ytbdnnicodailcaa", sum := "a41b9f5265d666bcad41e658d5aec9747b4973e04e3efd620c233eb68b01c606", func := "gooseneck/goosenecklaw06.BridgeGround", spec := "bridgeGround", unfollowed := true, recurses := true, named := ["math/bits.divideError", "math/bits.overflowError"], apart := false }
def BridgeGroundSaid : Prop := bridgeGroundRow.holds Try.pinned (OpenSpec.ofChange bridgeGroundSpec)

/-- ITS FALSE NEIGHBOUR: 'it returns false'. Refute it at one input. -/
def bridgeGroundWrong : ChangeSpec := { name := "bridgeGround", fn := fun _ => fun
  | [d1, d2, d3, d4, d5, d6] => { results := [.lit (.bool false)], args := [d1, d2, d3, d4, d5, d6] }
  | _ => none }
def BridgeGroundWrongFalsely : Prop := bridgeGroundRow.holds Try.pinned (OpenSpec.ofChange bridgeGroundWrong)

/-- 'goosenecklaw06.BridgeBorne': WHATEVER THE INPUT: true; the input reads as it did. -/
def bridgeBorneSpec : ChangeSpec := { name := "bridgeBorne", fn := fun _ => fun
  | [d1, d2, d3, d4, d5, d6, d7] => { results := [.lit (.bool true)], args := [d1, d2, d3, d4, d5, d6, d7] }
  | _ => none }
def bridgeBorneRow : OpenClaim := { program := "ytbdnnicodailcaa", sum := "a41b9f5265d666bcad41e658d5aec9747b4973e04e3efd620c233eb68b01c606", func := "gooseneck/goosenecklaw06.BridgeBorne", spec := "bridgeBorne", unfollowed := true, recurses := true, named := ["math/bits.divideError", "math/bits.overflowError"], apart := false }
def BridgeBorneSaid : Prop := bridgeBorneRow.holds Try.pinned (OpenSpec.ofChange bridgeBorneSpec)

/-- ITS FALSE NEIGHBOUR: 'it returns false'. Refute it at one input. -/
def bridgeBorneWrong : ChangeSpec := { name := "bridgeBorne", fn := fun _ => fun
  | [d1, d2, d3, d4, d5, d6, d7] => { results := [.lit (.bool false)], args := [d1, d2, d3, d4, d5, d6, d7] }
  | _ => none }
def BridgeBorneWrongFalsely : Prop := bridgeBorneRow.holds Try.pinned (OpenSpec.ofChange bridgeBorneWrong)

/-- 'goosenecklaw06.BridgeMost': WHATEVER THE INPUT: true; the input reads as it did. -/
def bridgeMostSpec : ChangeSpec := { name := "bridgeMost", fn := fun _ => fun
  | [d1, d2, d3] => { results := [.lit (.bool true)], args := [d1, d2, d3] }
  | _ => none }
def bridgeMostRow : OpenClaim := { program := "ytbdnnicodailcaa", sum := "a41b9f5265d666bcad41e658d5aec9747b4973e04e3efd620c233eb68b01c606", func := "gooseneck/goosenecklaw06.BridgeMost", spec := "bridgeMost", unfollowed := true, recurses := true, named := ["math/bits.divideError", "math/bits.overflowError"], apart := false }
def BridgeMostSaid : Prop := bridgeMostRow.holds Try.pinned (OpenSpec.ofChange bridgeMostSpec)

/-- ITS FALSE NEIGHBOUR: 'it returns false'. Refute it at one input. -/
def bridgeMostWrong : ChangeSpec := { name := "bridgeMost", fn := fun _ => fun
  | [d1, d2, d3] => { results := [.lit (.bool false)], args := [d1, d2, d3] }
  | _ => none }
def BridgeMostWrongFalsely : Prop := bridgeMostRow.holds Try.pinned (OpenSpec.ofChange bridgeMostWrong)

/-- 'goosenecklaw06.BridgeBears': WHATEVER THE INPUT: true; the input reads as it did. -/
def bridgeBearsSpec : ChangeSpec := { name := "bridgeBears", fn := fun _ => fun
  | [d1, d2, d3] => { results := [.lit (.bool true)], args := [d1, d2, d3] }
  | _ => none }
def bridgeBearsRow : OpenClaim := { program := "ytbdnnicodailcaa", sum := "a41b9f5265d666bcad41e658d5aec9747b4973e04e3efd620c233eb68b01c606", func := "gooseneck/goosenecklaw06.BridgeBears", spec := "bridgeBears", unfollowed := true, recurses := true, named := ["math/bits.divideError", "math/bits.overflowError"], apart := false }
def BridgeBearsSaid : Prop := bridgeBearsRow.holds Try.pinned (OpenSpec.ofChange bridgeBearsSpec)

/-- ITS FALSE NEIGHBOUR: 'it returns false'. Refute it at one input. -/
def bridgeBearsWrong : ChangeSpec := { name := "bridgeBears", fn := fun _ => fun
  | [d1, d2, d3] => { results := [.lit (.bool false)], args := [d1, d2, d3] }
  | _ => none }
def BridgeBearsWrongFalsely : Prop := bridgeBearsRow.holds Try.pinned (OpenSpec.ofChange bridgeBearsWrong)

/-- 'goosenecklaw06.BridgeKnown': WHATEVER THE INPUT: true; the input reads as it did. -/
def bridgeKnownSpec : ChangeSpec := { name := "bridgeKnown", fn := fun _ => fun
  | [] => { results := [.lit (.bool true)], args := [] }
  | _ => none }
def bridgeKnownRow : OpenClaim := { program := "ytbdnnicodailcaa", sum := "a41b9f5265d666bcad41e658d5aec9747b4973e04e3efd620c233eb68b01c606", func := "gooseneck/goosenecklaw06.BridgeKnown", spec := "bridgeKnown", unfollowed := true, recurses := true, named := ["math/bits.divideError", "math/bits.overflowError"], apart := false }
def BridgeKnownSaid : Prop := bridgeKnownRow.holds Try.pinned (OpenSpec.ofChange bridgeKnownSpec)

/-- ITS FALSE NEIGHBOUR: 'it returns false'. Refute it at one input. -/
def bridgeKnownWrong : ChangeSpec := { name := "bridgeKnown", fn := fun _ => fun
  | [] => { results := [.lit (.bool false)], args := [] }
  | _ => none }
def BridgeKnownWrongFalsely : Prop := bridgeKnownRow.holds Try.pinned (OpenSpec.ofChange bridgeKnownWrong)

/-- 'goosenecklaw06.BridgeTrains': WHATEVER THE INPUT: true; the input reads as it did. -/
def bridgeTrainsSpec : ChangeSpec := { name := "bridgeTrains", fn := fun _ => fun
  | [d1, d2] => { results := [.lit (.bool true)], args := [d1, d2] }
  | _ => none }
def bridgeTrainsRow : OpenClaim := { program := "ytbdnnicodailcaa", sum := "a41b9f5265d666bcad41e658d5aec9747b4973e04e3efd620c233eb68b01c606", func := "gooseneck/goosenecklaw06.BridgeTrains", spec := "bridgeTrains", unfollowed := true, recurses := true, named := ["math/bits.divideError", "math/bits.overflowError"], apart := false }
def BridgeTrainsSaid : Prop := bridgeTrainsRow.holds Try.pinned (OpenSpec.ofChange bridgeTrainsSpec)

/-- ITS FALSE NEIGHBOUR: 'it returns false'. Refute it at one input. -/
def bridgeTrainsWrong : ChangeSpec := { name := "bridgeTrains", fn := fun _ => fun
  | [d1, d2] => { results := [.lit (.bool false)], args := [d1, d2] }
  | _ => none }
def BridgeTrainsWrongFalsely : Prop := bridgeTrainsRow.holds Try.pinned (OpenSpec.ofChange bridgeTrainsWrong)

/- THE SECOND FORM. 'bulk': how many values and letters a reading holds, each counted each time it is reached (what is shared counts as often as it is met; a slice's spare places count too). A statement '..UptoSaid' is the law's where the arguments, and the package variables that the reading takes, are together of bulk at most 1048576: NARROWER than '..Said'. Prove '..Said' where nothing that the law and all that it calls make is longer than what came in: it says more and counts as full. Else prove '..UptoSaid'. A law counts once. -/
mutual
def uptoBulk {H : Type} : DataW H → Nat
  | .lit (.string bytes) => bytes.length + 1
  | .lit _ => 1
  | .nil => 1
  | .ptr d => uptoBulk d + 1
  | .slice elems spare => uptoBulkAll elems + uptoBulkAll spare + 1
  | .agg parts => uptoBulkAll parts + 1
  | .iface _ d => uptoBulk d + 1
  | .map entries => uptoBulkEntries entries + 1
  | .held _ => 1
def uptoBulkAll {H : Type} : List (DataW H) → Nat
  | [] => 0
  | d :: r => uptoBulk d + uptoBulkAll r
def uptoBulkEntries {H : Type} : List (Lit × DataW H) → Nat
  | [] => 0
  | x :: r => uptoBulkEntry x + uptoBulkEntries r
def uptoBulkEntry {H : Type} : Lit × DataW H → Nat
  | (.string bytes, d) => bytes.length + uptoBulk d + 1
  | (_, d) => uptoBulk d + 1
 end
def uptoSmall : (H : Type) → List (DataW H) → Bool := fun _ ds => decide (uptoBulkAll ds ≤ 1048576)
def OpenSpec.upto (s : _root_.Go.ChangeSpec) : _root_.Go.OpenSpec := { _root_.Go.OpenSpec.ofChange s with cond := some uptoSmall }

/-- 'goosenecklaw06.BridgeMirrors', WHERE WHAT IT READS IS OF BULK AT MOST 1048576: true; the input reads as it did. -/
def bridgeMirrorsUptoRow : OpenClaim := { program := "ytbdnnicodailcaa", sum := "a41b9f5265d666bcad41e658d5aec9747b4973e04e3efd620c233eb68b01c606", func := "gooseneck/goosenecklaw06.BridgeMirrors", spec := "bridgeMirrors", unfollowed := true, recurses := true, named := ["math/bits.divideError", "math/bits.overflowError"], apart := false, narrowed := true }
def BridgeMirrorsUptoSaid : Prop := bridgeMirrorsUptoRow.holds Try.pinned (OpenSpec.upto bridgeMirrorsSpec)

/-- 'goosenecklaw06.BridgeAdds', WHERE WHAT IT READS IS OF BULK AT MOST 1048576: true; the input reads as it did. -/
def bridgeAddsUptoRow : OpenClaim := { program := "ytbdnnicodailcaa", sum := "a41b9f5265d666bcad41e658d5aec9747b4973e04e3efd620c233eb68b01c606", func := "gooseneck/goosenecklaw06.BridgeAdds", spec := "bridgeAdds", unfollowed := true, recurses := true, named := ["math/bits.divideError", "math/bits.overflowError"], apart := false, narrowed := true }
def BridgeAddsUptoSaid : Prop := bridgeAddsUptoRow.holds Try.pinned (OpenSpec.upto bridgeAddsSpec)

/-- 'goosenecklaw06.BridgeWears', WHERE WHAT IT READS IS OF BULK AT MOST 1048576: true; the input reads as it did. -/
def bridgeWearsUptoRow : OpenClaim := { program := "ytbdnnicodailcaa", sum := "a41b9f5265d666bcad41e658d5aec9747b4973e04e3efd620c233eb68b01c606", func := "gooseneck/goosenecklaw06.BridgeWears", spec := "bridgeWears", unfollowed := true, recurses := true, named := ["math/bits.divideError", "math/bits.overflowError"], apart := false, narrowed := true }
def BridgeWearsUptoSaid : Prop := bridgeWearsUptoRow.holds Try.pinned (OpenSpec.upto bridgeWearsSpec)

/-- 'goosenecklaw06.BridgeGround', WHERE WHAT IT READS IS OF BULK AT MOST 1048576: true; the input reads as it did. -/
def bridgeGroundUptoRow : OpenClaim := { program := "ytbdnnicodailcaa", sum := "a41b9f5265d666bcad41e658d5aec9747b4973e04e3efd620c233eb68b01c606", func := "gooseneck/goosenecklaw06.BridgeGround", spec := "bridgeGround", unfollowed := true, recurses := true, named := ["math/bits.divideError", "math/bits.overflowError"], apart := false, narrowed := true }
def BridgeGroundUptoSaid : Prop := bridgeGroundUptoRow.holds Try.pinned (OpenSpec.upto bridgeGroundSpec)

/-- 'goosenecklaw06.BridgeBorne', WHERE WHAT IT READS IS OF BULK AT MOST 1048576: true; the input reads as it did. -/
def bridgeBorneUptoRow : OpenClaim := { program := "ytbdnnicodailcaa", sum := "a41b9f5265d666bcad41e658d5aec9747b4973e04e3efd620c233eb68b01c606", func := "gooseneck/goosenecklaw06.BridgeBorne", spec := "bridgeBorne", unfollowed := true, recurses := true, named := ["math/bits.divideError", "math/bits.overflowError"], apart := false, narrowed := true }
def BridgeBorneUptoSaid : Prop := bridgeBorneUptoRow.holds Try.pinned (OpenSpec.upto bridgeBorneSpec)

/-- 'goosenecklaw06.BridgeMost', WHERE WHAT IT READS IS OF BULK AT MOST 1048576: true; the input reads as it did. -/
def bridgeMostUptoRow : OpenClaim := { program := "ytbdnnicodailcaa", sum := "a41b9f5265d666bcad41e658d5aec9747b4973e04e3efd620c233eb68b01c606", func := "gooseneck/goosenecklaw06.BridgeMost", spec := "bridgeMost", unfollowed := true, recurses := true, named := ["math/bits.divideError", "math/bits.overflowError"], apart := false, narrowed := true }
def BridgeMostUptoSaid : Prop := bridgeMostUptoRow.holds Try.pinned (OpenSpec.upto bridgeMostSpec)

/-- 'goosenecklaw06.BridgeBears', WHERE WHAT IT READS IS OF BULK AT MOST 1048576: true; the input reads as it did. -/
def bridgeBearsUptoRow : OpenClaim := { program := "ytbdnnicodailcaa", sum := "a41b9f5265d666bcad41e658d5aec9747b4973e04e3efd620c233eb68b01c606", func := "gooseneck/goosenecklaw06.BridgeBears", spec := "bridgeBears", unfollowed := true, recurses := true, named := ["math/bits.divideError", "math/bits.overflowError"], apart := false, narrowed := true }
def BridgeBearsUptoSaid : Prop := bridgeBearsUptoRow.holds Try.pinned (OpenSpec.upto bridgeBearsSpec)

/-- 'goosenecklaw06.BridgeKnown', WHERE WHAT IT READS IS OF BULK AT MOST 1048576: true; the input reads as it did. -/
def bridgeKnownUptoRow : OpenClaim := { program := "ytbdnnicodailcaa", sum := "a41b9f5265d666bcad41e658d5aec9747b4973e04e3efd620c233eb68b01c606", func := "gooseneck/goosenecklaw06.BridgeKnown", spec := "bridgeKnown", unfollowed := true, recurses := true, named := ["math/bits.divideError", "math/bits.overflowError"], apart := false, narrowed := true }
def BridgeKnownUptoSaid : Prop := bridgeKnownUptoRow.holds Try.pinned (OpenSpec.upto bridgeKnownSpec)

/-- 'goosenecklaw06.BridgeTrains', WHERE WHAT IT READS IS OF BULK AT MOST 1048576: true; the input reads as it did. -/
def bridgeTrainsUptoRow : OpenClaim := { program := "ytbdnnicodailcaa", sum := "a41b9f5265d666bcad41e658d5aec9747b4973e04e3efd620c233eb68b01c606", func := "gooseneck/goosenecklaw06.BridgeTrains", spec := "bridgeTrains", unfollowed := true, recurses := true, named := ["math/bits.divideError", "math/bits.overflowError"], apart := false, narrowed := true }
def BridgeTrainsUptoSaid : Prop := bridgeTrainsUptoRow.holds Try.pinned (OpenSpec.upto bridgeTrainsSpec)

end Rows
end Go.Proofs.Ytbdnnicodailcaa
