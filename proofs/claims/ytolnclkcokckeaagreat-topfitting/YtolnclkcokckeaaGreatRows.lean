/-
  No cell of these rows narrows 'for every input' (looked for: loops, veiled, ifaces, maps, wideKeys, modest, calm, conditions, laid).
  DERIVED. THE GIVEN ROWS OF THIS SEAT. 2 by the template 'for every input the law returns true; each argument reads behind the call as it read before'; 0 by the template 'total and deterministic' (their statements: YtolnclkcokckeaaGreatTotals.lean).
  GIVEN WITH THE SEED: the statements are not yours to turn. If you find one false, say at which input.
  Laid BY PROGRAM, IN A SANDBOX (cutbox-rows.mjs): the forced cells as the released guide's own fill.sh prints them over the translation 376a3de2d82f2bdc… (all of the seat's roots in one cut). By AI agents, Wed Nov 11 2026. No macro, syntax, notation, axiom, sorry.
-/
import Derived.Test.YtolnclkcokckeaaGreatChecked
import GoSem.Claim
import GoSem.ClaimJoined
import GoSem.ClaimMapViews
import Derived.JoinedTies
import Derived.KernelRfl
namespace Go.Proofs.YtolnclkcokckeaaGreat
/- THE CELL 'sum', in the pinned program and in every row, IS THE sha256 OF THE DUMP (.gsa) THAT YtolnclkcokckeaaGreatProg.lean LOADS. Nothing in Lean hashes anything: it is a label: what it is worth is what the hold of that sum in a sandbox is worth. -/
noncomputable def Tryz.pinned : Pinned := { name := "ytolnclkcokckeaagreat", sum := "376a3de2d82f2bdc9f590ae8885a7cd0553dd7b1534c7f74f4928ed48942aa7f", checked := Tryz.checked }
namespace Rows
def none {H : Type} : Left H := { results := [], args := [] }

/-- 'goosenecktop.TopLessAsked': WHATEVER THE INPUT: true; the input reads as it did. -/
def topLessAskedSpec : ChangeSpec := { name := "topLessAsked", fn := fun _ => fun
  | [d1, d2, d3, d4] => { results := [.lit (.bool true)], args := [d1, d2, d3, d4] }
  | _ => none }
def topLessAskedRow : OpenClaim := { program := "ytolnclkcokckeaagreat", sum := "376a3de2d82f2bdc9f590ae8885a7cd0553dd7b1534c7f74f4928ed48942aa7f", func := "gooseneck/goosenecktop.TopLessAsked", spec := "topLessAsked", unfollowed := true, recurses := true, named := ["math/bits.divideError", "math/bits.overflowError"], apart := false }
def TopLessAskedSaid : Prop := topLessAskedRow.holds Tryz.pinned (OpenSpec.ofChange topLessAskedSpec)

/-- ITS FALSE NEIGHBOUR: 'it returns false'. Refute it at one input. -/
def topLessAskedWrong : ChangeSpec := { name := "topLessAsked", fn := fun _ => fun
  | [d1, d2, d3, d4] => { results := [.lit (.bool false)], args := [d1, d2, d3, d4] }
  | _ => none }
def TopLessAskedWrongFalsely : Prop := topLessAskedRow.holds Tryz.pinned (OpenSpec.ofChange topLessAskedWrong)

/-- 'goosenecktop.TopFitting': WHATEVER THE INPUT: true; the input reads as it did. -/
def topFittingSpec : ChangeSpec := { name := "topFitting", fn := fun _ => fun
  | [d1, d2, d3, d4, d5] => { results := [.lit (.bool true)], args := [d1, d2, d3, d4, d5] }
  | _ => none }
def topFittingRow : OpenClaim := { program := "ytolnclkcokckeaagreat", sum := "376a3de2d82f2bdc9f590ae8885a7cd0553dd7b1534c7f74f4928ed48942aa7f", func := "gooseneck/goosenecktop.TopFitting", spec := "topFitting", unfollowed := true, recurses := true, named := ["math/bits.divideError", "math/bits.overflowError"], apart := false }
def TopFittingSaid : Prop := topFittingRow.holds Tryz.pinned (OpenSpec.ofChange topFittingSpec)

/-- ITS FALSE NEIGHBOUR: 'it returns false'. Refute it at one input. -/
def topFittingWrong : ChangeSpec := { name := "topFitting", fn := fun _ => fun
  | [d1, d2, d3, d4, d5] => { results := [.lit (.bool false)], args := [d1, d2, d3, d4, d5] }
  | _ => none }
def TopFittingWrongFalsely : Prop := topFittingRow.holds Tryz.pinned (OpenSpec.ofChange topFittingWrong)

/- THE SECOND FORM. 'bulk': how many values and letters a reading holds, each counted each time it is reached (what is shared counts as often as it is met; a slice's spare places count too). A statement '..UptoSaid' is the law's where the arguments, and the package variables that the reading takes, are together of bulk at most 1048576: NARROWER than '..Said'. Prove '..Said' where nothing that the law and all that it calls make is longer than what came in: it says more and counts as full. Else prove '..UptoSaid'. A law counts once. -/
mutual
def uptoBulk {H : Type} : DataW H → Nat
  | .lit (.string bytes) => bytes.length + 1
  | .lit _ => 1
  | .nil => 1
  | .ptr d => uptoBulk d + 1
  | .slice elems spare => uptoBulkAll elems + uptoBulkAll spare + 1
  | .agg parts => uptoBulkAll parts + 1
  | .iface _ d => uptoBulk d + 1
  | .map entries => uptoBulkEntries entries + 1
  | .held _ => 1
def uptoBulkAll {H : Type} : List (DataW H) → Nat
  | [] => 0
  | d :: r => uptoBulk d + uptoBulkAll r
def uptoBulkEntries {H : Type} : List (Lit × DataW H) → Nat
  | [] => 0
  | x :: r => uptoBulkEntry x + uptoBulkEntries r
def uptoBulkEntry {H : Type} : Lit × DataW H → Nat
  | (.string bytes, d) => bytes.length + uptoBulk d + 1
  | (_, d) => uptoBulk d + 1
 end
def uptoSmall : (H : Type) → List (DataW H) → Bool := fun _ ds => decide (uptoBulkAll ds ≤ 1048576)
def OpenSpec.upto (s : _root_.Go.ChangeSpec) : _root_.Go.OpenSpec := { _root_.Go.OpenSpec.ofChange s with cond := some uptoSmall }

/-- 'goosenecktop.TopLessAsked', WHERE WHAT IT READS IS OF BULK AT MOST 1048576: true; the input reads as it did. -/
def topLessAskedUptoRow : OpenClaim := { program := "ytolnclkcokckeaagreat", sum := "376a3de2d82f2bdc9f590ae8885a7cd0553dd7b1534c7f74f4928ed48942aa7f", func := "gooseneck/goosenecktop.TopLessAsked", spec := "topLessAsked", unfollowed := true, recurses := true, named := ["math/bits.divideError", "math/bits.overflowError"], apart := false, narrowed := true }
def TopLessAskedUptoSaid : Prop := topLessAskedUptoRow.holds Tryz.pinned (OpenSpec.upto topLessAskedSpec)

/-- 'goosenecktop.TopFitting', WHERE WHAT IT READS IS OF BULK AT MOST 1048576: true; the input reads as it did. -/
def topFittingUptoRow : OpenClaim := { program := "ytolnclkcokckeaagreat", sum := "376a3de2d82f2bdc9f590ae8885a7cd0553dd7b1534c7f74f4928ed48942aa7f", func := "gooseneck/goosenecktop.TopFitting", spec := "topFitting", unfollowed := true, recurses := true, named := ["math/bits.divideError", "math/bits.overflowError"], apart := false, narrowed := true }
def TopFittingUptoSaid : Prop := topFittingUptoRow.holds Tryz.pinned (OpenSpec.upto topFittingSpec)

end Rows
end Go.Proofs.YtolnclkcokckeaaGreat
