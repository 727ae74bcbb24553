/-
  No cell of these rows narrows 'for every input' (looked for: loops, veiled, ifaces, maps, wideKeys, modest, calm, conditions, laid).
  DERIVED. THE GIVEN ROWS OF THIS SEAT. 2 by the template 'for every input the law returns true; each argument reads behind the call as it read before'; 0 by the template 'total and deterministic' (their statements: YtmekmmgiamjfoaaTotals.lean).
  GIVEN WITH THE SEED: the statements are not yours to turn. If you find one false, say at which input.
  Laid BY PROGRAM, IN A SANDBOX (cutbox-rows.mjs): the forced cells as the released guide's own fill.sh prints them over the translation 3a3110544a70b773… (all of the seat's roots in one cut). By AI agents, Wed Nov 11 2026. No macro, syntax, notation, axiom, sorry.
-/
import Derived.Test.YtmekmmgiamjfoaaChecked
import GoSem.Claim
import GoSem.ClaimJoined
import GoSem.ClaimMapViews
import Derived.JoinedTies
import Derived.KernelRfl
namespace Go.Proofs.Ytmekmmgiamjfoaa
/- THE CELL 'sum', in the pinned program and in every row, IS THE sha256 OF THE DUMP (.gsa) THAT YtmekmmgiamjfoaaProg.lean LOADS. Nothing in Lean hashes anything: it is a label: what it is worth is what the hold of that sum in a sandbox is worth. -/
noncomputable def Try.pinned : Pinned := { name := "ytmekmmgiamjfoaa", sum := "3a3110544a70b7734b3a765c4c5c7be5c9c664fc6332cd589874664fdaaa79fc", checked := Try.checked }
namespace Rows
def none {H : Type} : Left H := { results := [], args := [] }

/-- 'goosenecklaw10.ConvoyKnown': WHATEVER THE INPUT: true; the input reads as it did. -/
def convoyKnownSpec : ChangeSpec := { name := "convoyKnown", fn := fun _ => fun
  | [] => { results := [.lit (.bool true)], args := [] }
  | _ => none }
def convoyKnownRow : OpenClaim := { program := "ytmekmmgiamjfoaa", sum := "3a3110544a70b7734b3a765c4c5c7be5c9c664fc6332cd589874664fdaaa79fc", func := "gooseneck/goosenecklaw10.ConvoyKnown", spec := "convoyKnown", unfollowed := true, recurses := true, apart := false }
def ConvoyKnownSaid : Prop := convoyKnownRow.holds Try.pinned (OpenSpec.ofChange convoyKnownSpec)

/-- ITS FALSE NEIGHBOUR: 'it returns false'. Refute it at one input. -/
def convoyKnownWrong : ChangeSpec := { name := "convoyKnown", fn := fun _ => fun
  | [] => { results := [.lit (.bool false)], args := [] }
  | _ => none }
def ConvoyKnownWrongFalsely : Prop := convoyKnownRow.holds Try.pinned (OpenSpec.ofChange convoyKnownWrong)

/-- 'goosenecklaw10.ConvoyNil': WHATEVER THE INPUT: true; the input reads as it did. -/
def convoyNilSpec : ChangeSpec := { name := "convoyNil", fn := fun _ => fun
  | [d1, d2] => { results := [.lit (.bool true)], args := [d1, d2] }
  | _ => none }
def convoyNilRow : OpenClaim := { program := "ytmekmmgiamjfoaa", sum := "3a3110544a70b7734b3a765c4c5c7be5c9c664fc6332cd589874664fdaaa79fc", func := "gooseneck/goosenecklaw10.ConvoyNil", spec := "convoyNil", unfollowed := true, recurses := true, apart := false }
def ConvoyNilSaid : Prop := convoyNilRow.holds Try.pinned (OpenSpec.ofChange convoyNilSpec)

/-- ITS FALSE NEIGHBOUR: 'it returns false'. Refute it at one input. -/
def convoyNilWrong : ChangeSpec := { name := "convoyNil", fn := fun _ => fun
  | [d1, d2] => { results := [.lit (.bool false)], args := [d1, d2] }
  | _ => none }
def ConvoyNilWrongFalsely : Prop := convoyNilRow.holds Try.pinned (OpenSpec.ofChange convoyNilWrong)

/- THE SECOND FORM. 'bulk': how many values and letters a reading holds, each counted each time it is reached (what is shared counts as often as it is met; a slice's spare places count too). A statement '..UptoSaid' is the law's where the arguments, and the package variables that the reading takes, are together of bulk at most 1048576: NARROWER than '..Said'. Prove '..Said' where nothing that the law and all that it calls make is longer than what came in: it says more and counts as full. Else prove '..UptoSaid'. A law counts once. -/
mutual
def uptoBulk {H : Type} : DataW H → Nat
  | .lit (.string bytes) => bytes.length + 1
  | .lit _ => 1
  | .nil => 1
  | .ptr d => uptoBulk d + 1
  | .slice elems spare => uptoBulkAll elems + uptoBulkAll spare + 1
  | .agg parts => uptoBulkAll parts + 1
  | .iface _ d => uptoBulk d + 1
  | .map entries => uptoBulkEntries entries + 1
  | .held _ => 1
def uptoBulkAll {H : Type} : List (DataW H) → Nat
  | [] => 0
  | d :: r => uptoBulk d + uptoBulkAll r
def uptoBulkEntries {H : Type} : List (Lit × DataW H) → Nat
  | [] => 0
  | x :: r => uptoBulkEntry x + uptoBulkEntries r
def uptoBulkEntry {H : Type} : Lit × DataW H → Nat
  | (.string bytes, d) => bytes.length + uptoBulk d + 1
  | (_, d) => uptoBulk d + 1
 end
def uptoSmall : (H : Type) → List (DataW H) → Bool := fun _ ds => decide (uptoBulkAll ds ≤ 1048576)
def OpenSpec.upto (s : _root_.Go.ChangeSpec) : _root_.Go.OpenSpec := { _root_.Go.OpenSpec.ofChange s with cond := some uptoSmall }

/-- 'goosenecklaw10.ConvoyKnown', WHERE WHAT IT READS IS OF BULK AT MOST 1048576: true; the input reads as it did. -/
def convoyKnownUptoRow : OpenClaim := { program := "ytmekmmgiamjfoaa", sum := "3a3110544a70b7734b3a765c4c5c7be5c9c664fc6332cd589874664fdaaa79fc", func := "gooseneck/goosenecklaw10.ConvoyKnown", spec := "convoyKnown", unfollowed := true, recurses := true, apart := false, narrowed := true }
def ConvoyKnownUptoSaid : Prop := convoyKnownUptoRow.holds Try.pinned (OpenSpec.upto convoyKnownSpec)

/-- 'goosenecklaw10.ConvoyNil', WHERE WHAT IT READS IS OF BULK AT MOST 1048576: true; the input reads as it did. -/
def convoyNilUptoRow : OpenClaim := { program := "ytmekmmgiamjfoaa", sum := "3a3110544a70b7734b3a765c4c5c7be5c9c664fc6332cd589874664fdaaa79fc", func := "gooseneck/goosenecklaw10.ConvoyNil", spec := "convoyNil", unfollowed := true, recurses := true, apart := false, narrowed := true }
def ConvoyNilUptoSaid : Prop := convoyNilUptoRow.holds Try.pinned (OpenSpec.upto convoyNilSpec)

end Rows
end Go.Proofs.Ytmekmmgiamjfoaa
