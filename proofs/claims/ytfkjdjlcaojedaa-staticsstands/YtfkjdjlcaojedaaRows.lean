/-
  No cell of these rows narrows 'for every input' (looked for: loops, veiled, ifaces, maps, wideKeys, modest, calm, conditions, laid).
  DERIVED. THE GIVEN ROWS OF THIS SEAT. 13 by the template 'for every input the law returns true; each argument reads behind the call as it read before'; 0 by the template 'total and deterministic' (their statements: YtfkjdjlcaojedaaTotals.lean).
  GIVEN WITH THE SEED: the statements are not yours to turn. If you find one false, say at which input.
  Laid BY PROGRAM, IN A SANDBOX (cutbox-rows.mjs): the forced cells as the released guide's own fill.sh prints them over the translation 114e61be0859b0aa… (all of the seat's roots in one cut). By AI agents, Wed Nov 11 2026. No macro, syntax, notation, axiom, sorry.
-/
import Derived.Test.YtfkjdjlcaojedaaChecked
import GoSem.Claim
import GoSem.ClaimJoined
import GoSem.ClaimMapViews
import Derived.JoinedTies
import Derived.KernelRfl
namespace Go.Proofs.Ytfkjdjlcaojedaa
/- THE CELL 'sum', in the pinned program and in every row, IS THE sha256 OF THE DUMP (.gsa) THAT YtfkjdjlcaojedaaProg.lean LOADS. Nothing in Lean hashes anything: it is a label: what it is worth is what the hold of that sum in a sandbox is worth. -/
noncomputable def Try.pinned : Pinned := { name := "ytfkjdjlcaojedaa", sum := "114e61be0859b0aa24a5bac958d8cf5e334e92393bb064ed2ee04694b7091066", checked := Try.checked }
namespace Rows
def none {H : Type} : Left H := { results := [], args := [] }

/-- 'goosenecklaw04.StaticsLevers': WHATEVER THE INPUT: true; the input reads as it did. -/
def staticsLeversSpec : ChangeSpec := { name := "staticsLevers", fn := fun _ => fun
  | [d1, d2, d3, d4] => { results := [.lit (.bool true)], args := [d1, d2, d3, d4] }
  | _ => none }
def staticsLeversRow : OpenClaim := { program := "ytfkjdjlcaojedaa", sum := "114e61be0859b0aa24a5bac958d8cf5e334e92393bb064ed2ee04694b7091066", func := "gooseneck/goosenecklaw04.StaticsLevers", spec := "staticsLevers", unfollowed := true, recurses := true, named := ["math/bits.divideError", "math/bits.overflowError"], apart := false }
def StaticsLeversSaid : Prop := staticsLeversRow.holds Try.pinned (OpenSpec.ofChange staticsLeversSpec)

/-- ITS FALSE NEIGHBOUR: 'it returns false'. Refute it at one input. -/
def staticsLeversWrong : ChangeSpec := { name := "staticsLevers", fn := fun _ => fun
  | [d1, d2, d3, d4] => { results := [.lit (.bool false)], args := [d1, d2, d3, d4] }
  | _ => none }
def StaticsLeversWrongFalsely : Prop := staticsLeversRow.holds Try.pinned (OpenSpec.ofChange staticsLeversWrong)

/-- 'goosenecklaw04.StaticsTips': WHATEVER THE INPUT: true; the input reads as it did. -/
def staticsTipsSpec : ChangeSpec := { name := "staticsTips", fn := fun _ => fun
  | [d1, d2] => { results := [.lit (.bool true)], args := [d1, d2] }
  | _ => none }
def staticsTipsRow : OpenClaim := { program := "ytfkjdjlcaojedaa", sum := "114e61be0859b0aa24a5bac958d8cf5e334e92393bb064ed2ee04694b7091066", func := "gooseneck/goosenecklaw04.StaticsTips", spec := "staticsTips", unfollowed := true, recurses := true, named := ["math/bits.divideError", "math/bits.overflowError"], apart := false }
def StaticsTipsSaid : Prop := staticsTipsRow.holds Try.pinned (OpenSpec.ofChange staticsTipsSpec)

/-- ITS FALSE NEIGHBOUR: 'it returns false'. Refute it at one input. -/
def staticsTipsWrong : ChangeSpec := { name := "staticsTips", fn := fun _ => fun
  | [d1, d2] => { results := [.lit (.bool false)], args := [d1, d2] }
  | _ => none }
def StaticsTipsWrongFalsely : Prop := staticsTipsRow.holds Try.pinned (OpenSpec.ofChange staticsTipsWrong)

/-- 'goosenecklaw04.StaticsAll': WHATEVER THE INPUT: true; the input reads as it did. -/
def staticsAllSpec : ChangeSpec := { name := "staticsAll", fn := fun _ => fun
  | [d1, d2, d3, d4] => { results := [.lit (.bool true)], args := [d1, d2, d3, d4] }
  | _ => none }
def staticsAllRow : OpenClaim := { program := "ytfkjdjlcaojedaa", sum := "114e61be0859b0aa24a5bac958d8cf5e334e92393bb064ed2ee04694b7091066", func := "gooseneck/goosenecklaw04.StaticsAll", spec := "staticsAll", unfollowed := true, recurses := true, named := ["math/bits.divideError", "math/bits.overflowError"], apart := false }
def StaticsAllSaid : Prop := staticsAllRow.holds Try.pinned (OpenSpec.ofChange staticsAllSpec)

/-- ITS FALSE NEIGHBOUR: 'it returns false'. Refute it at one input. -/
def staticsAllWrong : ChangeSpec := { name := "staticsAll", fn := fun _ => fun
  | [d1, d2, d3, d4] => { results := [.lit (.bool false)], args := [d1, d2, d3, d4] }
  | _ => none }
def StaticsAllWrongFalsely : Prop := staticsAllRow.holds Try.pinned (OpenSpec.ofChange staticsAllWrong)

/-- 'goosenecklaw04.StaticsBalance': WHATEVER THE INPUT: true; the input reads as it did. -/
def staticsBalanceSpec : ChangeSpec := { name := "staticsBalance", fn := fun _ => fun
  | [d1, d2] => { results := [.lit (.bool true)], args := [d1, d2] }
  | _ => none }
def staticsBalanceRow : OpenClaim := { program := "ytfkjdjlcaojedaa", sum := "114e61be0859b0aa24a5bac958d8cf5e334e92393bb064ed2ee04694b7091066", func := "gooseneck/goosenecklaw04.StaticsBalance", spec := "staticsBalance", unfollowed := true, recurses := true, named := ["math/bits.divideError", "math/bits.overflowError"], apart := false }
def StaticsBalanceSaid : Prop := staticsBalanceRow.holds Try.pinned (OpenSpec.ofChange staticsBalanceSpec)

/-- ITS FALSE NEIGHBOUR: 'it returns false'. Refute it at one input. -/
def staticsBalanceWrong : ChangeSpec := { name := "staticsBalance", fn := fun _ => fun
  | [d1, d2] => { results := [.lit (.bool false)], args := [d1, d2] }
  | _ => none }
def StaticsBalanceWrongFalsely : Prop := staticsBalanceRow.holds Try.pinned (OpenSpec.ofChange staticsBalanceWrong)

/-- 'goosenecklaw04.StaticsShares': WHATEVER THE INPUT: true; the input reads as it did. -/
def staticsSharesSpec : ChangeSpec := { name := "staticsShares", fn := fun _ => fun
  | [d1, d2, d3] => { results := [.lit (.bool true)], args := [d1, d2, d3] }
  | _ => none }
def staticsSharesRow : OpenClaim := { program := "ytfkjdjlcaojedaa", sum := "114e61be0859b0aa24a5bac958d8cf5e334e92393bb064ed2ee04694b7091066", func := "gooseneck/goosenecklaw04.StaticsShares", spec := "staticsShares", unfollowed := true, recurses := true, named := ["math/bits.divideError", "math/bits.overflowError"], apart := false }
def StaticsSharesSaid : Prop := staticsSharesRow.holds Try.pinned (OpenSpec.ofChange staticsSharesSpec)

/-- ITS FALSE NEIGHBOUR: 'it returns false'. Refute it at one input. -/
def staticsSharesWrong : ChangeSpec := { name := "staticsShares", fn := fun _ => fun
  | [d1, d2, d3] => { results := [.lit (.bool false)], args := [d1, d2, d3] }
  | _ => none }
def StaticsSharesWrongFalsely : Prop := staticsSharesRow.holds Try.pinned (OpenSpec.ofChange staticsSharesWrong)

/-- 'goosenecklaw04.StaticsFeet': WHATEVER THE INPUT: true; the input reads as it did. -/
def staticsFeetSpec : ChangeSpec := { name := "staticsFeet", fn := fun _ => fun
  | [d1, d2, d3, d4, d5, d6, d7, d8] => { results := [.lit (.bool true)], args := [d1, d2, d3, d4, d5, d6, d7, d8] }
  | _ => none }
def staticsFeetRow : OpenClaim := { program := "ytfkjdjlcaojedaa", sum := "114e61be0859b0aa24a5bac958d8cf5e334e92393bb064ed2ee04694b7091066", func := "gooseneck/goosenecklaw04.StaticsFeet", spec := "staticsFeet", unfollowed := true, recurses := true, named := ["math/bits.divideError", "math/bits.overflowError"], apart := false }
def StaticsFeetSaid : Prop := staticsFeetRow.holds Try.pinned (OpenSpec.ofChange staticsFeetSpec)

/-- ITS FALSE NEIGHBOUR: 'it returns false'. Refute it at one input. -/
def staticsFeetWrong : ChangeSpec := { name := "staticsFeet", fn := fun _ => fun
  | [d1, d2, d3, d4, d5, d6, d7, d8] => { results := [.lit (.bool false)], args := [d1, d2, d3, d4, d5, d6, d7, d8] }
  | _ => none }
def StaticsFeetWrongFalsely : Prop := staticsFeetRow.holds Try.pinned (OpenSpec.ofChange staticsFeetWrong)

/-- 'goosenecklaw04.StaticsKnown': WHATEVER THE INPUT: true; the input reads as it did. -/
def staticsKnownSpec : ChangeSpec := { name := "staticsKnown", fn := fun _ => fun
  | [] => { results := [.lit (.bool true)], args := [] }
  | _ => none }
def staticsKnownRow : OpenClaim := { program := "ytfkjdjlcaojedaa", sum := "114e61be0859b0aa24a5bac958d8cf5e334e92393bb064ed2ee04694b7091066", func := "gooseneck/goosenecklaw04.StaticsKnown", spec := "staticsKnown", unfollowed := true, recurses := true, named := ["math/bits.divideError", "math/bits.overflowError"], apart := false }
def StaticsKnownSaid : Prop := staticsKnownRow.holds Try.pinned (OpenSpec.ofChange staticsKnownSpec)

/-- ITS FALSE NEIGHBOUR: 'it returns false'. Refute it at one input. -/
def staticsKnownWrong : ChangeSpec := { name := "staticsKnown", fn := fun _ => fun
  | [] => { results := [.lit (.bool false)], args := [] }
  | _ => none }
def StaticsKnownWrongFalsely : Prop := staticsKnownRow.holds Try.pinned (OpenSpec.ofChange staticsKnownWrong)

/-- 'goosenecklaw04.StaticsGround': WHATEVER THE INPUT: true; the input reads as it did. -/
def staticsGroundSpec : ChangeSpec := { name := "staticsGround", fn := fun _ => fun
  | [d1, d2, d3, d4] => { results := [.lit (.bool true)], args := [d1, d2, d3, d4] }
  | _ => none }
def staticsGroundRow : OpenClaim := { program := "ytfkjdjlcaojedaa", sum := "114e61be0859b0aa24a5bac958d8cf5e334e92393bb064ed2ee04694b7091066", func := "gooseneck/goosenecklaw04.StaticsGround", spec := "staticsGround", unfollowed := true, recurses := true, named := ["math/bits.divideError", "math/bits.overflowError"], apart := false }
def StaticsGroundSaid : Prop := staticsGroundRow.holds Try.pinned (OpenSpec.ofChange staticsGroundSpec)

/-- ITS FALSE NEIGHBOUR: 'it returns false'. Refute it at one input. -/
def staticsGroundWrong : ChangeSpec := { name := "staticsGround", fn := fun _ => fun
  | [d1, d2, d3, d4] => { results := [.lit (.bool false)], args := [d1, d2, d3, d4] }
  | _ => none }
def StaticsGroundWrongFalsely : Prop := staticsGroundRow.holds Try.pinned (OpenSpec.ofChange staticsGroundWrong)

/-- 'goosenecklaw04.StaticsLevel': WHATEVER THE INPUT: true; the input reads as it did. -/
def staticsLevelSpec : ChangeSpec := { name := "staticsLevel", fn := fun _ => fun
  | [d1, d2, d3, d4] => { results := [.lit (.bool true)], args := [d1, d2, d3, d4] }
  | _ => none }
def staticsLevelRow : OpenClaim := { program := "ytfkjdjlcaojedaa", sum := "114e61be0859b0aa24a5bac958d8cf5e334e92393bb064ed2ee04694b7091066", func := "gooseneck/goosenecklaw04.StaticsLevel", spec := "staticsLevel", unfollowed := true, recurses := true, named := ["math/bits.divideError", "math/bits.overflowError"], apart := false }
def StaticsLevelSaid : Prop := staticsLevelRow.holds Try.pinned (OpenSpec.ofChange staticsLevelSpec)

/-- ITS FALSE NEIGHBOUR: 'it returns false'. Refute it at one input. -/
def staticsLevelWrong : ChangeSpec := { name := "staticsLevel", fn := fun _ => fun
  | [d1, d2, d3, d4] => { results := [.lit (.bool false)], args := [d1, d2, d3, d4] }
  | _ => none }
def StaticsLevelWrongFalsely : Prop := staticsLevelRow.holds Try.pinned (OpenSpec.ofChange staticsLevelWrong)

/-- 'goosenecklaw04.StaticsAxles': WHATEVER THE INPUT: true; the input reads as it did. -/
def staticsAxlesSpec : ChangeSpec := { name := "staticsAxles", fn := fun _ => fun
  | [d1, d2, d3, d4, d5] => { results := [.lit (.bool true)], args := [d1, d2, d3, d4, d5] }
  | _ => none }
def staticsAxlesRow : OpenClaim := { program := "ytfkjdjlcaojedaa", sum := "114e61be0859b0aa24a5bac958d8cf5e334e92393bb064ed2ee04694b7091066", func := "gooseneck/goosenecklaw04.StaticsAxles", spec := "staticsAxles", unfollowed := true, recurses := true, named := ["math/bits.divideError", "math/bits.overflowError"], apart := false }
def StaticsAxlesSaid : Prop := staticsAxlesRow.holds Try.pinned (OpenSpec.ofChange staticsAxlesSpec)

/-- ITS FALSE NEIGHBOUR: 'it returns false'. Refute it at one input. -/
def staticsAxlesWrong : ChangeSpec := { name := "staticsAxles", fn := fun _ => fun
  | [d1, d2, d3, d4, d5] => { results := [.lit (.bool false)], args := [d1, d2, d3, d4, d5] }
  | _ => none }
def StaticsAxlesWrongFalsely : Prop := staticsAxlesRow.holds Try.pinned (OpenSpec.ofChange staticsAxlesWrong)

/-- 'goosenecklaw04.StaticsStands': WHATEVER THE INPUT: true; the input reads as it did. -/
def staticsStandsSpec : ChangeSpec := { name := "staticsStands", fn := fun _ => fun
  | [d1, d2, d3, d4] => { results := [.lit (.bool true)], args := [d1, d2, d3, d4] }
  | _ => none }
def staticsStandsRow : OpenClaim := { program := "ytfkjdjlcaojedaa", sum := "114e61be0859b0aa24a5bac958d8cf5e334e92393bb064ed2ee04694b7091066", func := "gooseneck/goosenecklaw04.StaticsStands", spec := "staticsStands", unfollowed := true, recurses := true, named := ["math/bits.divideError", "math/bits.overflowError"], apart := false }
def StaticsStandsSaid : Prop := staticsStandsRow.holds Try.pinned (OpenSpec.ofChange staticsStandsSpec)

/-- ITS FALSE NEIGHBOUR: 'it returns false'. Refute it at one input. -/
def staticsStandsWrong : ChangeSpec := { name := "staticsStands", fn := fun _ => fun
  | [d1, d2, d3, d4] => { results := [.lit (.bool false)], args := [d1, d2, d3, d4] }
  | _ => none }
def StaticsStandsWrongFalsely : Prop := staticsStandsRow.holds Try.pinned (OpenSpec.ofChange staticsStandsWrong)

/-- 'goosenecklaw04.StaticsDivides': WHATEVER THE INPUT: true; the input reads as it did. -/
def staticsDividesSpec : ChangeSpec := { name := "staticsDivides", fn := fun _ => fun
  | [d1, d2, d3] => { results := [.lit (.bool true)], args := [d1, d2, d3] }
  | _ => none }
def staticsDividesRow : OpenClaim := { program := "ytfkjdjlcaojedaa", sum := "114e61be0859b0aa24a5bac958d8cf5e334e92393bb064ed2ee04694b7091066", func := "gooseneck/goosenecklaw04.StaticsDivides", spec := "staticsDivides", unfollowed := true, recurses := true, named := ["math/bits.divideError", "math/bits.overflowError"], apart := false }
def StaticsDividesSaid : Prop := staticsDividesRow.holds Try.pinned (OpenSpec.ofChange staticsDividesSpec)

/-- ITS FALSE NEIGHBOUR: 'it returns false'. Refute it at one input. -/
def staticsDividesWrong : ChangeSpec := { name := "staticsDivides", fn := fun _ => fun
  | [d1, d2, d3] => { results := [.lit (.bool false)], args := [d1, d2, d3] }
  | _ => none }
def StaticsDividesWrongFalsely : Prop := staticsDividesRow.holds Try.pinned (OpenSpec.ofChange staticsDividesWrong)

/-- 'goosenecklaw04.StaticsLeast': WHATEVER THE INPUT: true; the input reads as it did. -/
def staticsLeastSpec : ChangeSpec := { name := "staticsLeast", fn := fun _ => fun
  | [d1, d2, d3] => { results := [.lit (.bool true)], args := [d1, d2, d3] }
  | _ => none }
def staticsLeastRow : OpenClaim := { program := "ytfkjdjlcaojedaa", sum := "114e61be0859b0aa24a5bac958d8cf5e334e92393bb064ed2ee04694b7091066", func := "gooseneck/goosenecklaw04.StaticsLeast", spec := "staticsLeast", unfollowed := true, recurses := true, named := ["math/bits.divideError", "math/bits.overflowError"], apart := false }
def StaticsLeastSaid : Prop := staticsLeastRow.holds Try.pinned (OpenSpec.ofChange staticsLeastSpec)

/-- ITS FALSE NEIGHBOUR: 'it returns false'. Refute it at one input. -/
def staticsLeastWrong : ChangeSpec := { name := "staticsLeast", fn := fun _ => fun
  | [d1, d2, d3] => { results := [.lit (.bool false)], args := [d1, d2, d3] }
  | _ => none }
def StaticsLeastWrongFalsely : Prop := staticsLeastRow.holds Try.pinned (OpenSpec.ofChange staticsLeastWrong)

/- THE SECOND FORM. 'bulk': how many values and letters a reading holds, each counted each time it is reached (what is shared counts as often as it is met; a slice's spare places count too). A statement '..UptoSaid' is the law's where the arguments, and the package variables that the reading takes, are together of bulk at most 1048576: NARROWER than '..Said'. Prove '..Said' where nothing that the law and all that it calls make is longer than what came in: it says more and counts as full. Else prove '..UptoSaid'. A law counts once. -/
mutual
def uptoBulk {H : Type} : DataW H → Nat
  | .lit (.string bytes) => bytes.length + 1
  | .lit _ => 1
  | .nil => 1
  | .ptr d => uptoBulk d + 1
  | .slice elems spare => uptoBulkAll elems + uptoBulkAll spare + 1
  | .agg parts => uptoBulkAll parts + 1
  | .iface _ d => uptoBulk d + 1
  | .map entries => uptoBulkEntries entries + 1
  | .held _ => 1
def uptoBulkAll {H : Type} : List (DataW H) → Nat
  | [] => 0
  | d :: r => uptoBulk d + uptoBulkAll r
def uptoBulkEntries {H : Type} : List (Lit × DataW H) → Nat
  | [] => 0
  | x :: r => uptoBulkEntry x + uptoBulkEntries r
def uptoBulkEntry {H : Type} : Lit × DataW H → Nat
  | (.string bytes, d) => bytes.length + uptoBulk d + 1
  | (_, d) => uptoBulk d + 1
 end
def uptoSmall : (H : Type) → List (DataW H) → Bool := fun _ ds => decide (uptoBulkAll ds ≤ 1048576)
def OpenSpec.upto (s : _root_.Go.ChangeSpec) : _root_.Go.OpenSpec := { _root_.Go.OpenSpec.ofChange s with cond := some uptoSmall }

/-- 'goosenecklaw04.StaticsLevers', WHERE WHAT IT READS IS OF BULK AT MOST 1048576: true; the input reads as it did. -/
def staticsLeversUptoRow : OpenClaim := { program := "ytfkjdjlcaojedaa", sum := "114e61be0859b0aa24a5bac958d8cf5e334e92393bb064ed2ee04694b7091066", func := "gooseneck/goosenecklaw04.StaticsLevers", spec := "staticsLevers", unfollowed := true, recurses := true, named := ["math/bits.divideError", "math/bits.overflowError"], apart := false, narrowed := true }
def StaticsLeversUptoSaid : Prop := staticsLeversUptoRow.holds Try.pinned (OpenSpec.upto staticsLeversSpec)

/-- 'goosenecklaw04.StaticsTips', WHERE WHAT IT READS IS OF BULK AT MOST 1048576: true; the input reads as it did. -/
def staticsTipsUptoRow : OpenClaim := { program := "ytfkjdjlcaojedaa", sum := "114e61be0859b0aa24a5bac958d8cf5e334e92393bb064ed2ee04694b7091066", func := "gooseneck/goosenecklaw04.StaticsTips", spec := "staticsTips", unfollowed := true, recurses := true, named := ["math/bits.divideError", "math/bits.overflowError"], apart := false, narrowed := true }
def StaticsTipsUptoSaid : Prop := staticsTipsUptoRow.holds Try.pinned (OpenSpec.upto staticsTipsSpec)

/-- 'goosenecklaw04.StaticsAll', WHERE WHAT IT READS IS OF BULK AT MOST 1048576: true; the input reads as it did. -/
def staticsAllUptoRow : OpenClaim := { program := "ytfkjdjlcaojedaa", sum := "114e61be0859b0aa24a5bac958d8cf5e334e92393bb064ed2ee04694b7091066", func := "gooseneck/goosenecklaw04.StaticsAll", spec := "staticsAll", unfollowed := true, recurses := true, named := ["math/bits.divideError", "math/bits.overflowError"], apart := false, narrowed := true }
def StaticsAllUptoSaid : Prop := staticsAllUptoRow.holds Try.pinned (OpenSpec.upto staticsAllSpec)

/-- 'goosenecklaw04.StaticsBalance', WHERE WHAT IT READS IS OF BULK AT MOST 1048576: true; the input reads as it did. -/
def staticsBalanceUptoRow : OpenClaim := { program := "ytfkjdjlcaojedaa", sum := "114e61be0859b0aa24a5bac958d8cf5e334e92393bb064ed2ee04694b7091066", func := "gooseneck/goosenecklaw04.StaticsBalance", spec := "staticsBalance", unfollowed := true, recurses := true, named := ["math/bits.divideError", "math/bits.overflowError"], apart := false, narrowed := true }
def StaticsBalanceUptoSaid : Prop := staticsBalanceUptoRow.holds Try.pinned (OpenSpec.upto staticsBalanceSpec)

/-- 'goosenecklaw04.StaticsShares', WHERE WHAT IT READS IS OF BULK AT MOST 1048576: true; the input reads as it did. -/
def staticsSharesUptoRow : OpenClaim := { program := "ytfkjdjlcaojedaa", sum := "114e61be0859b0aa24a5bac958d8cf5e334e92393bb064ed2ee04694b7091066", func := "gooseneck/goosenecklaw04.StaticsShares", spec := "staticsShares", unfollowed := true, recurses := true, named := ["math/bits.divideError", "math/bits.overflowError"], apart := false, narrowed := true }
def StaticsSharesUptoSaid : Prop := staticsSharesUptoRow.holds Try.pinned (OpenSpec.upto staticsSharesSpec)

/-- 'goosenecklaw04.StaticsFeet', WHERE WHAT IT READS IS OF BULK AT MOST 1048576: true; the input reads as it did. -/
def staticsFeetUptoRow : OpenClaim := { program := "ytfkjdjlcaojedaa", sum := "114e61be0859b0aa24a5bac958d8cf5e334e92393bb064ed2ee04694b7091066", func := "gooseneck/goosenecklaw04.StaticsFeet", spec := "staticsFeet", unfollowed := true, recurses := true, named := ["math/bits.divideError", "math/bits.overflowError"], apart := false, narrowed := true }
def StaticsFeetUptoSaid : Prop := staticsFeetUptoRow.holds Try.pinned (OpenSpec.upto staticsFeetSpec)

/-- 'goosenecklaw04.StaticsKnown', WHERE WHAT IT READS IS OF BULK AT MOST 1048576: true; the input reads as it did. -/
def staticsKnownUptoRow : OpenClaim := { program := "ytfkjdjlcaojedaa", sum := "114e61be0859b0aa24a5bac958d8cf5e334e92393bb064ed2ee04694b7091066", func := "gooseneck/goosenecklaw04.StaticsKnown", spec := "staticsKnown", unfollowed := true, recurses := true, named := ["math/bits.divideError", "math/bits.overflowError"], apart := false, narrowed := true }
def StaticsKnownUptoSaid : Prop := staticsKnownUptoRow.holds Try.pinned (OpenSpec.upto staticsKnownSpec)

/-- 'goosenecklaw04.StaticsGround', WHERE WHAT IT READS IS OF BULK AT MOST 1048576: true; the input reads as it did. -/
def staticsGroundUptoRow : OpenClaim := { program := "ytfkjdjlcaojedaa", sum := "114e61be0859b0aa24a5bac958d8cf5e334e92393bb064ed2ee04694b7091066", func := "gooseneck/goosenecklaw04.StaticsGround", spec := "staticsGround", unfollowed := true, recurses := true, named := ["math/bits.divideError", "math/bits.overflowError"], apart := false, narrowed := true }
def StaticsGroundUptoSaid : Prop := staticsGroundUptoRow.holds Try.pinned (OpenSpec.upto staticsGroundSpec)

/-- 'goosenecklaw04.StaticsLevel', WHERE WHAT IT READS IS OF BULK AT MOST 1048576: true; the input reads as it did. -/
def staticsLevelUptoRow : OpenClaim := { program := "ytfkjdjlcaojedaa", sum := "114e61be0859b0aa24a5bac958d8cf5e334e92393bb064ed2ee04694b7091066", func := "gooseneck/goosenecklaw04.StaticsLevel", spec := "staticsLevel", unfollowed := true, recurses := true, named := ["math/bits.divideError", "math/bits.overflowError"], apart := false, narrowed := true }
def StaticsLevelUptoSaid : Prop := staticsLevelUptoRow.holds Try.pinned (OpenSpec.upto staticsLevelSpec)

/-- 'goosenecklaw04.StaticsAxles', WHERE WHAT IT READS IS OF BULK AT MOST 1048576: true; the input reads as it did. -/
def staticsAxlesUptoRow : OpenClaim := { program := "ytfkjdjlcaojedaa", sum := "114e61be0859b0aa24a5bac958d8cf5e334e92393bb064ed2ee04694b7091066", func := "gooseneck/goosenecklaw04.StaticsAxles", spec := "staticsAxles", unfollowed := true, recurses := true, named := ["math/bits.divideError", "math/bits.overflowError"], apart := false, narrowed := true }
def StaticsAxlesUptoSaid : Prop := staticsAxlesUptoRow.holds Try.pinned (OpenSpec.upto staticsAxlesSpec)

/-- 'goosenecklaw04.StaticsStands', WHERE WHAT IT READS IS OF BULK AT MOST 1048576: true; the input reads as it did. -/
def staticsStandsUptoRow : OpenClaim := { program := "ytfkjdjlcaojedaa", sum := "114e61be0859b0aa24a5bac958d8cf5e334e92393bb064ed2ee04694b7091066", func := "gooseneck/goosenecklaw04.StaticsStands", spec := "staticsStands", unfollowed := true, recurses := true, named := ["math/bits.divideError", "math/bits.overflowError"], apart := false, narrowed := true }
def StaticsStandsUptoSaid : Prop := staticsStandsUptoRow.holds Try.pinned (OpenSpec.upto staticsStandsSpec)

/-- 'goosenecklaw04.StaticsDivides', WHERE WHAT IT READS IS OF BULK AT MOST 1048576: true; the input reads as it did. -/
def staticsDividesUptoRow : OpenClaim := { program := "ytfkjdjlcaojedaa", sum := "114e61be0859b0aa24a5bac958d8cf5e334e92393bb064ed2ee04694b7091066", func := "gooseneck/goosenecklaw04.StaticsDivides", spec := "staticsDivides", unfollowed := true, recurses := true, named := ["math/bits.divideError", "math/bits.overflowError"], apart := false, narrowed := true }
def StaticsDividesUptoSaid : Prop := staticsDividesUptoRow.holds Try.pinned (OpenSpec.upto staticsDividesSpec)

/-- 'goosenecklaw04.StaticsLeast', WHERE WHAT IT READS IS OF BULK AT MOST 1048576: true; the input reads as it did. -/
def staticsLeastUptoRow : OpenClaim := { program := "ytfkjdjlcaojedaa", sum := "114e61be0859b0aa24a5bac958d8cf5e334e92393bb064ed2ee04694b7091066", func := "gooseneck/goosenecklaw04.StaticsLeast", spec := "staticsLeast", unfollowed := true, recurses := true, named := ["math/bits.divideError", "math/bits.overflowError"], apart := false, narrowed := true }
def StaticsLeastUptoSaid : Prop := staticsLeastUptoRow.holds Try.pinned (OpenSpec.upto staticsLeastSpec)

end Rows
end Go.Proofs.Ytfkjdjlcaojedaa
