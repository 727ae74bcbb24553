/-
  No cell of these rows narrows 'for every input' (looked for: loops, veiled, ifaces, maps, wideKeys, modest, calm, conditions, laid).
  DERIVED. THE GIVEN ROWS OF THIS SEAT. 3 by the template 'for every input the law returns true; each argument reads behind the call as it read before'; 0 by the template 'total and deterministic' (their statements: YtgiedelaebdooaaGreatTotals.lean).
  GIVEN WITH THE SEED: the statements are not yours to turn. If you find one false, say at which input.
  Laid BY PROGRAM, IN A SANDBOX (cutbox-rows.mjs): the forced cells as the released guide's own fill.sh prints them over the translation 7e79afdfa0659950… (all of the seat's roots in one cut). By AI agents, Wed Nov 11 2026. No macro, syntax, notation, axiom, sorry.
-/
import Derived.Test.YtgiedelaebdooaaGreatChecked
import GoSem.Claim
import GoSem.ClaimJoined
import GoSem.ClaimMapViews
import Derived.JoinedTies
import Derived.KernelRfl
namespace Go.Proofs.YtgiedelaebdooaaGreat
/- THE CELL 'sum', in the pinned program and in every row, IS THE sha256 OF THE DUMP (.gsa) THAT YtgiedelaebdooaaGreatProg.lean LOADS. Nothing in Lean hashes anything: it is a label: what it is worth is what the hold of that sum in a sandbox is worth. -/
noncomputable def Tryz.pinned : Pinned := { name := "ytgiedelaebdooaagreat", sum := "7e79afdfa06599503bfe63bbcf17991525e5fe1e7884c57739180722d90c10cc", checked := Tryz.checked }
namespace Rows
def none {H : Type} : Left H := { results := [], args := [] }

/-- 'goosenecktop.TopOnGuide': WHATEVER THE INPUT: true; the input reads as it did. -/
def topOnGuideSpec : ChangeSpec := { name := "topOnGuide", fn := fun _ => fun
  | [d1, d2, d3, d4] => { results := [.lit (.bool true)], args := [d1, d2, d3, d4] }
  | _ => none }
def topOnGuideRow : OpenClaim := { program := "ytgiedelaebdooaagreat", sum := "7e79afdfa06599503bfe63bbcf17991525e5fe1e7884c57739180722d90c10cc", func := "gooseneck/goosenecktop.TopOnGuide", spec := "topOnGuide", unfollowed := true, recurses := true, named := ["math/bits.divideError", "math/bits.overflowError"], apart := false }
def TopOnGuideSaid : Prop := topOnGuideRow.holds Tryz.pinned (OpenSpec.ofChange topOnGuideSpec)

/-- ITS FALSE NEIGHBOUR: 'it returns false'. Refute it at one input. -/
def topOnGuideWrong : ChangeSpec := { name := "topOnGuide", fn := fun _ => fun
  | [d1, d2, d3, d4] => { results := [.lit (.bool false)], args := [d1, d2, d3, d4] }
  | _ => none }
def TopOnGuideWrongFalsely : Prop := topOnGuideRow.holds Tryz.pinned (OpenSpec.ofChange topOnGuideWrong)

/-- 'goosenecktop.TopWitnessed': WHATEVER THE INPUT: true; the input reads as it did. -/
def topWitnessedSpec : ChangeSpec := { name := "topWitnessed", fn := fun _ => fun
  | [d1, d2, d3, d4, d5, d6, d7, d8] => { results := [.lit (.bool true)], args := [d1, d2, d3, d4, d5, d6, d7, d8] }
  | _ => none }
def topWitnessedRow : OpenClaim := { program := "ytgiedelaebdooaagreat", sum := "7e79afdfa06599503bfe63bbcf17991525e5fe1e7884c57739180722d90c10cc", func := "gooseneck/goosenecktop.TopWitnessed", spec := "topWitnessed", unfollowed := true, recurses := true, named := ["math/bits.divideError", "math/bits.overflowError"], apart := false }
def TopWitnessedSaid : Prop := topWitnessedRow.holds Tryz.pinned (OpenSpec.ofChange topWitnessedSpec)

/-- ITS FALSE NEIGHBOUR: 'it returns false'. Refute it at one input. -/
def topWitnessedWrong : ChangeSpec := { name := "topWitnessed", fn := fun _ => fun
  | [d1, d2, d3, d4, d5, d6, d7, d8] => { results := [.lit (.bool false)], args := [d1, d2, d3, d4, d5, d6, d7, d8] }
  | _ => none }
def TopWitnessedWrongFalsely : Prop := topWitnessedRow.holds Tryz.pinned (OpenSpec.ofChange topWitnessedWrong)

/-- 'goosenecktop.TopPermitted': WHATEVER THE INPUT: true; the input reads as it did. -/
def topPermittedSpec : ChangeSpec := { name := "topPermitted", fn := fun _ => fun
  | [d1, d2, d3] => { results := [.lit (.bool true)], args := [d1, d2, d3] }
  | _ => none }
def topPermittedRow : OpenClaim := { program := "ytgiedelaebdooaagreat", sum := "7e79afdfa06599503bfe63bbcf17991525e5fe1e7884c57739180722d90c10cc", func := "gooseneck/goosenecktop.TopPermitted", spec := "topPermitted", unfollowed := true, recurses := true, named := ["math/bits.divideError", "math/bits.overflowError"], apart := false }
def TopPermittedSaid : Prop := topPermittedRow.holds Tryz.pinned (OpenSpec.ofChange topPermittedSpec)

/-- ITS FALSE NEIGHBOUR: 'it returns false'. Refute it at one input. -/
def topPermittedWrong : ChangeSpec := { name := "topPermitted", fn := fun _ => fun
  | [d1, d2, d3] => { results := [.lit (.bool false)], args := [d1, d2, d3] }
  | _ => none }
def TopPermittedWrongFalsely : Prop := topPermittedRow.holds Tryz.pinned (OpenSpec.ofChange topPermittedWrong)

/- THE SECOND FORM. 'bulk': how many values and letters a reading holds, each counted each time it is reached (what is shared counts as often as it is met; a slice's spare places count too). A statement '..UptoSaid' is the law's where the arguments, and the package variables that the reading takes, are together of bulk at most 1048576: NARROWER than '..Said'. Prove '..Said' where nothing that the law and all that it calls make is longer than what came in: it says more and counts as full. Else prove '..UptoSaid'. A law counts once. -/
mutual
def uptoBulk {H : Type} : DataW H → Nat
  | .lit (.string bytes) => bytes.length + 1
  | .lit _ => 1
  | .nil => 1
  | .ptr d => uptoBulk d + 1
  | .slice elems spare => uptoBulkAll elems + uptoBulkAll spare + 1
  | .agg parts => uptoBulkAll parts + 1
  | .iface _ d => uptoBulk d + 1
  | .map entries => uptoBulkEntries entries + 1
  | .held _ => 1
def uptoBulkAll {H : Type} : List (DataW H) → Nat
  | [] => 0
  | d :: r => uptoBulk d + uptoBulkAll r
def uptoBulkEntries {H : Type} : List (Lit × DataW H) → Nat
  | [] => 0
  | x :: r => uptoBulkEntry x + uptoBulkEntries r
def uptoBulkEntry {H : Type} : Lit × DataW H → Nat
  | (.string bytes, d) => bytes.length + uptoBulk d + 1
  | (_, d) => uptoBulk d + 1
 end
def uptoSmall : (H : Type) → List (DataW H) → Bool := fun _ ds => decide (uptoBulkAll ds ≤ 1048576)
def OpenSpec.upto (s : _root_.Go.ChangeSpec) : _root_.Go.OpenSpec := { _root_.Go.OpenSpec.ofChange s with cond := some uptoSmall }

/-- 'goosenecktop.TopOnGuide', WHERE WHAT IT READS IS OF BULK AT MOST 1048576: true; the input reads as it did. -/
def topOnGuideUptoRow : OpenClaim := { program := "ytgiedelaebdooaagreat", sum := "7e79afdfa06599503bfe63bbcf17991525e5fe1e7884c57739180722d90c10cc", func := "gooseneck/goosenecktop.TopOnGuide", spec := "topOnGuide", unfollowed := true, recurses := true, named := ["math/bits.divideError", "math/bits.overflowError"], apart := false, narrowed := true }
def TopOnGuideUptoSaid : Prop := topOnGuideUptoRow.holds Tryz.pinned (OpenSpec.upto topOnGuideSpec)

/-- 'goosenecktop.TopWitnessed', WHERE WHAT IT READS IS OF BULK AT MOST 1048576: true; the input reads as it did. -/
def topWitnessedUptoRow : OpenClaim := { program := "ytgiedelaebdooaagreat", sum := "7e79afdfa06599503bfe63bbcf17991525e5fe1e7884c57739180722d90c10cc", func := "gooseneck/goosenecktop.TopWitnessed", spec := "topWitnessed", unfollowed := true, recurses := true, named := ["math/bits.divideError", "math/bits.overflowError"], apart := false, narrowed := true }
def TopWitnessedUptoSaid : Prop := topWitnessedUptoRow.holds Tryz.pinned (OpenSpec.upto topWitnessedSpec)

/-- 'goosenecktop.TopPermitted', WHERE WHAT IT READS IS OF BULK AT MOST 1048576: true; the input reads as it did. -/
def topPermittedUptoRow : OpenClaim := { program := "ytgiedelaebdooaagreat", sum := "7e79afdfa06599503bfe63bbcf17991525e5fe1e7884c57739180722d90c10cc", func := "gooseneck/goosenecktop.TopPermitted", spec := "topPermitted", unfollowed := true, recurses := true, named := ["math/bits.divideError", "math/bits.overflowError"], apart := false, narrowed := true }
def TopPermittedUptoSaid : Prop := topPermittedUptoRow.holds Tryz.pinned (OpenSpec.upto topPermittedSpec)

end Rows
end Go.Proofs.YtgiedelaebdooaaGreat
