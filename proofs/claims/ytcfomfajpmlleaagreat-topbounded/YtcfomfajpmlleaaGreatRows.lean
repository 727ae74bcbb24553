/-
  No cell of these rows narrows 'for every input' (looked for: loops, veiled, ifaces, maps, wideKeys, modest, calm, conditions, laid).
  DERIVED. THE GIVEN ROWS OF THIS SEAT. 2 by the template 'for every input the law returns true; each argument reads behind the call as it read before'; 0 by the template 'total and deterministic' (their statements: YtcfomfajpmlleaaGreatTotals.lean).
  GIVEN WITH THE SEED: the statements are not yours to turn. If you find one false, say at which input.
  Laid BY PROGRAM, IN A SANDBOX (cutbox-rows.mjs): the forced cells as the released guide's own fill.sh prints them over the translation da0b39a838579b0e… (all of the seat's roots in one cut). By AI agents, Wed Nov 11 2026. No macro, syntax, notation, axiom, sorry.
-/
import Derived.Test.YtcfomfajpmlleaaGreatChecked
import GoSem.Claim
import GoSem.ClaimJoined
import GoSem.ClaimMapViews
import Derived.JoinedTies
import Derived.KernelRfl
namespace Go.Proofs.YtcfomfajpmlleaaGreat
/- THE CELL 'sum', in the pinned program and in every row, IS THE sha256 OF THE DUMP (.gsa) THAT YtcfomfajpmlleaaGreatProg.lean LOADS. Nothing in Lean hashes anything: it is a label: what it is worth is what the hold of that sum in a sandbox is worth. -/
noncomputable def Tryz.pinned : Pinned := { name := "ytcfomfajpmlleaagreat", sum := "da0b39a838579b0ed1552ebd066cb53474fbbb6822511353e62632a2c33fa8cd", checked := Tryz.checked }
namespace Rows
def none {H : Type} : Left H := { results := [], args := [] }

/-- 'goosenecktop.TopCarried': WHATEVER THE INPUT: true; the input reads as it did. -/
def topCarriedSpec : ChangeSpec := { name := "topCarried", fn := fun _ => fun
  | [d1, d2, d3, d4, d5] => { results := [.lit (.bool true)], args := [d1, d2, d3, d4, d5] }
  | _ => none }
def topCarriedRow : OpenClaim := { program := "ytcfomfajpmlleaagreat", sum := "da0b39a838579b0ed1552ebd066cb53474fbbb6822511353e62632a2c33fa8cd", func := "gooseneck/goosenecktop.TopCarried", spec := "topCarried", unfollowed := true, recurses := true, named := ["math/bits.divideError", "math/bits.overflowError"], plainKeys := false, apart := false }
def TopCarriedSaid : Prop := topCarriedRow.holds Tryz.pinned (OpenSpec.ofChange topCarriedSpec)

/-- ITS FALSE NEIGHBOUR: 'it returns false'. Refute it at one input. -/
def topCarriedWrong : ChangeSpec := { name := "topCarried", fn := fun _ => fun
  | [d1, d2, d3, d4, d5] => { results := [.lit (.bool false)], args := [d1, d2, d3, d4, d5] }
  | _ => none }
def TopCarriedWrongFalsely : Prop := topCarriedRow.holds Tryz.pinned (OpenSpec.ofChange topCarriedWrong)

/-- 'goosenecktop.TopBounded': WHATEVER THE INPUT: true; the input reads as it did. -/
def topBoundedSpec : ChangeSpec := { name := "topBounded", fn := fun _ => fun
  | [d1, d2, d3, d4, d5] => { results := [.lit (.bool true)], args := [d1, d2, d3, d4, d5] }
  | _ => none }
def topBoundedRow : OpenClaim := { program := "ytcfomfajpmlleaagreat", sum := "da0b39a838579b0ed1552ebd066cb53474fbbb6822511353e62632a2c33fa8cd", func := "gooseneck/goosenecktop.TopBounded", spec := "topBounded", unfollowed := true, recurses := true, named := ["math/bits.divideError", "math/bits.overflowError"], plainKeys := false, apart := false }
def TopBoundedSaid : Prop := topBoundedRow.holds Tryz.pinned (OpenSpec.ofChange topBoundedSpec)

/-- ITS FALSE NEIGHBOUR: 'it returns false'. Refute it at one input. -/
def topBoundedWrong : ChangeSpec := { name := "topBounded", fn := fun _ => fun
  | [d1, d2, d3, d4, d5] => { results := [.lit (.bool false)], args := [d1, d2, d3, d4, d5] }
  | _ => none }
def TopBoundedWrongFalsely : Prop := topBoundedRow.holds Tryz.pinned (OpenSpec.ofChange topBoundedWrong)

/- THE SECOND FORM. 'bulk': how many values and letters a reading holds, each counted each time it is reached (what is shared counts as often as it is met; a slice's spare places count too). A statement '..UptoSaid' is the law's where the arguments, and the package variables that the reading takes, are together of bulk at most 1048576: NARROWER than '..Said'. Prove '..Said' where nothing that the law and all that it calls make is longer than what came in: it says more and counts as full. Else prove '..UptoSaid'. A law counts once. -/
mutual
def uptoBulk {H : Type} : DataW H → Nat
  | .lit (.string bytes) => bytes.length + 1
  | .lit _ => 1
  | .nil => 1
  | .ptr d => uptoBulk d + 1
  | .slice elems spare => uptoBulkAll elems + uptoBulkAll spare + 1
  | .agg parts => uptoBulkAll parts + 1
  | .iface _ d => uptoBulk d + 1
  | .map entries => uptoBulkEntries entries + 1
  | .held _ => 1
def uptoBulkAll {H : Type} : List (DataW H) → Nat
  | [] => 0
  | d :: r => uptoBulk d + uptoBulkAll r
def uptoBulkEntries {H : Type} : List (Lit × DataW H) → Nat
  | [] => 0
  | x :: r => uptoBulkEntry x + uptoBulkEntries r
def uptoBulkEntry {H : Type} : Lit × DataW H → Nat
  | (.string bytes, d) => bytes.length + uptoBulk d + 1
  | (_, d) => uptoBulk d + 1
 end
def uptoSmall : (H : Type) → List (DataW H) → Bool := fun _ ds => decide (uptoBulkAll ds ≤ 1048576)
def OpenSpec.upto (s : _root_.Go.ChangeSpec) : _root_.Go.OpenSpec := { _root_.Go.OpenSpec.ofChange s with cond := some uptoSmall }

/-- 'goosenecktop.TopCarried', WHERE WHAT IT READS IS OF BULK AT MOST 1048576: true; the input reads as it did. -/
def topCarriedUptoRow : OpenClaim := { program := "ytcfomfajpmlleaagreat", sum := "da0b39a838579b0ed1552ebd066cb53474fbbb6822511353e62632a2c33fa8cd", func := "gooseneck/goosenecktop.TopCarried", spec := "topCarried", unfollowed := true, recurses := true, named := ["math/bits.divideError", "math/bits.overflowError"], plainKeys := false, apart := false, narrowed := true }
def TopCarriedUptoSaid : Prop := topCarriedUptoRow.holds Tryz.pinned (OpenSpec.upto topCarriedSpec)

/-- 'goosenecktop.TopBounded', WHERE WHAT IT READS IS OF BULK AT MOST 1048576: true; the input reads as it did. -/
def topBoundedUptoRow : OpenClaim := { program := "ytcfomfajpmlleaagreat", sum := "da0b39a838579b0ed1552ebd066cb53474fbbb6822511353e62632a2c33fa8cd", func := "gooseneck/goosenecktop.TopBounded", spec := "topBounded", unfollowed := true, recurses := true, named := ["math/bits.divideError", "math/bits.overflowError"], plainKeys := false, apart := false, narrowed := true }
def TopBoundedUptoSaid : Prop := topBoundedUptoRow.holds Tryz.pinned (OpenSpec.upto topBoundedSpec)

end Rows
end Go.Proofs.YtcfomfajpmlleaaGreat
