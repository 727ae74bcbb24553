/-
  No cell of these rows narrows 'for every input' (looked for: loops, veiled, ifaces, maps, wideKeys, modest, calm, conditions, laid).
  DERIVED. THE GIVEN ROWS OF THIS SEAT. 8 by the template 'for every input the law returns true; each argument reads behind the call as it read before'; 0 by the template 'total and deterministic' (their statements: YtgijpimjfoabjaaTotals.lean).
  GIVEN WITH THE SEED: the statements are not yours to turn. If you find one false, say at which input.
  Laid BY PROGRAM, IN A SANDBOX (cutbox-rows.mjs): the forced cells as the released guide's own fill.sh prints them over the translation 3533b387678e6f01… (all of the seat's roots in one cut). By AI agents, Wed Nov 11 2026. No macro, syntax, notation, axiom, sorry.
-/
import Derived.Test.YtgijpimjfoabjaaChecked
import GoSem.Claim
import GoSem.ClaimJoined
import GoSem.ClaimMapViews
import Derived.JoinedTies
import Derived.KernelRfl
namespace Go.Proofs.Ytgijpimjfoabjaa
/- THE CELL 'sum', in the pinned program and in every row, IS THE sha256 OF THE DUMP (.gsa) THAT YtgijpimjfoabjaaProg.lean LOADS. Nothing in Lean hashes anything: it is a label: what it is worth is what the hold of that sum in a sandbox is worth. -/
noncomputable def Try.pinned : Pinned := { name := "ytgijpimjfoabjaa", sum := "3533b387678e6f01d63a22c856b1934d7bbea0f920decf18569cad37392fabe4", checked := Try.checked }
namespace Rows
def none {H : Type} : Left H := { results := [], args := [] }

/-- 'goosenecklaw11.ClaimNarrower': WHATEVER THE INPUT: true; the input reads as it did. -/
def claimNarrowerSpec : ChangeSpec := { name := "claimNarrower", fn := fun _ => fun
  | [d1, d2, d3, d4, d5, d6] => { results := [.lit (.bool true)], args := [d1, d2, d3, d4, d5, d6] }
  | _ => none }
def claimNarrowerRow : OpenClaim := { program := "ytgijpimjfoabjaa", sum := "3533b387678e6f01d63a22c856b1934d7bbea0f920decf18569cad37392fabe4", func := "gooseneck/goosenecklaw11.ClaimNarrower", spec := "claimNarrower", unfollowed := true, recurses := true, apart := false }
def ClaimNarrowerSaid : Prop := claimNarrowerRow.holds Try.pinned (OpenSpec.ofChange claimNarrowerSpec)

/-- ITS FALSE NEIGHBOUR: 'it returns false'. Refute it at one input. -/
def claimNarrowerWrong : ChangeSpec := { name := "claimNarrower", fn := fun _ => fun
  | [d1, d2, d3, d4, d5, d6] => { results := [.lit (.bool false)], args := [d1, d2, d3, d4, d5, d6] }
  | _ => none }
def ClaimNarrowerWrongFalsely : Prop := claimNarrowerRow.holds Try.pinned (OpenSpec.ofChange claimNarrowerWrong)

/-- 'goosenecklaw11.ClaimWider': WHATEVER THE INPUT: true; the input reads as it did. -/
def claimWiderSpec : ChangeSpec := { name := "claimWider", fn := fun _ => fun
  | [d1, d2, d3] => { results := [.lit (.bool true)], args := [d1, d2, d3] }
  | _ => none }
def claimWiderRow : OpenClaim := { program := "ytgijpimjfoabjaa", sum := "3533b387678e6f01d63a22c856b1934d7bbea0f920decf18569cad37392fabe4", func := "gooseneck/goosenecklaw11.ClaimWider", spec := "claimWider", unfollowed := true, recurses := true, apart := false }
def ClaimWiderSaid : Prop := claimWiderRow.holds Try.pinned (OpenSpec.ofChange claimWiderSpec)

/-- ITS FALSE NEIGHBOUR: 'it returns false'. Refute it at one input. -/
def claimWiderWrong : ChangeSpec := { name := "claimWider", fn := fun _ => fun
  | [d1, d2, d3] => { results := [.lit (.bool false)], args := [d1, d2, d3] }
  | _ => none }
def ClaimWiderWrongFalsely : Prop := claimWiderRow.holds Try.pinned (OpenSpec.ofChange claimWiderWrong)

/-- 'goosenecklaw11.ClaimSettles': WHATEVER THE INPUT: true; the input reads as it did. -/
def claimSettlesSpec : ChangeSpec := { name := "claimSettles", fn := fun _ => fun
  | [d1, d2, d3, d4] => { results := [.lit (.bool true)], args := [d1, d2, d3, d4] }
  | _ => none }
def claimSettlesRow : OpenClaim := { program := "ytgijpimjfoabjaa", sum := "3533b387678e6f01d63a22c856b1934d7bbea0f920decf18569cad37392fabe4", func := "gooseneck/goosenecklaw11.ClaimSettles", spec := "claimSettles", unfollowed := true, recurses := true, apart := false }
def ClaimSettlesSaid : Prop := claimSettlesRow.holds Try.pinned (OpenSpec.ofChange claimSettlesSpec)

/-- ITS FALSE NEIGHBOUR: 'it returns false'. Refute it at one input. -/
def claimSettlesWrong : ChangeSpec := { name := "claimSettles", fn := fun _ => fun
  | [d1, d2, d3, d4] => { results := [.lit (.bool false)], args := [d1, d2, d3, d4] }
  | _ => none }
def ClaimSettlesWrongFalsely : Prop := claimSettlesRow.holds Try.pinned (OpenSpec.ofChange claimSettlesWrong)

/-- 'goosenecklaw11.ClaimPaid': WHATEVER THE INPUT: true; the input reads as it did. -/
def claimPaidSpec : ChangeSpec := { name := "claimPaid", fn := fun _ => fun
  | [d1, d2, d3, d4] => { results := [.lit (.bool true)], args := [d1, d2, d3, d4] }
  | _ => none }
def claimPaidRow : OpenClaim := { program := "ytgijpimjfoabjaa", sum := "3533b387678e6f01d63a22c856b1934d7bbea0f920decf18569cad37392fabe4", func := "gooseneck/goosenecklaw11.ClaimPaid", spec := "claimPaid", unfollowed := true, recurses := true, apart := false }
def ClaimPaidSaid : Prop := claimPaidRow.holds Try.pinned (OpenSpec.ofChange claimPaidSpec)

/-- ITS FALSE NEIGHBOUR: 'it returns false'. Refute it at one input. -/
def claimPaidWrong : ChangeSpec := { name := "claimPaid", fn := fun _ => fun
  | [d1, d2, d3, d4] => { results := [.lit (.bool false)], args := [d1, d2, d3, d4] }
  | _ => none }
def ClaimPaidWrongFalsely : Prop := claimPaidRow.holds Try.pinned (OpenSpec.ofChange claimPaidWrong)

/-- 'goosenecklaw11.ClaimSpans': WHATEVER THE INPUT: true; the input reads as it did. -/
def claimSpansSpec : ChangeSpec := { name := "claimSpans", fn := fun _ => fun
  | [d1, d2, d3, d4, d5] => { results := [.lit (.bool true)], args := [d1, d2, d3, d4, d5] }
  | _ => none }
def claimSpansRow : OpenClaim := { program := "ytgijpimjfoabjaa", sum := "3533b387678e6f01d63a22c856b1934d7bbea0f920decf18569cad37392fabe4", func := "gooseneck/goosenecklaw11.ClaimSpans", spec := "claimSpans", unfollowed := true, recurses := true, apart := false }
def ClaimSpansSaid : Prop := claimSpansRow.holds Try.pinned (OpenSpec.ofChange claimSpansSpec)

/-- ITS FALSE NEIGHBOUR: 'it returns false'. Refute it at one input. -/
def claimSpansWrong : ChangeSpec := { name := "claimSpans", fn := fun _ => fun
  | [d1, d2, d3, d4, d5] => { results := [.lit (.bool false)], args := [d1, d2, d3, d4, d5] }
  | _ => none }
def ClaimSpansWrongFalsely : Prop := claimSpansRow.holds Try.pinned (OpenSpec.ofChange claimSpansWrong)

/-- 'goosenecklaw11.ClaimVerdicts': WHATEVER THE INPUT: true; the input reads as it did. -/
def claimVerdictsSpec : ChangeSpec := { name := "claimVerdicts", fn := fun _ => fun
  | [d1, d2, d3] => { results := [.lit (.bool true)], args := [d1, d2, d3] }
  | _ => none }
def claimVerdictsRow : OpenClaim := { program := "ytgijpimjfoabjaa", sum := "3533b387678e6f01d63a22c856b1934d7bbea0f920decf18569cad37392fabe4", func := "gooseneck/goosenecklaw11.ClaimVerdicts", spec := "claimVerdicts", unfollowed := true, recurses := true, apart := false }
def ClaimVerdictsSaid : Prop := claimVerdictsRow.holds Try.pinned (OpenSpec.ofChange claimVerdictsSpec)

/-- ITS FALSE NEIGHBOUR: 'it returns false'. Refute it at one input. -/
def claimVerdictsWrong : ChangeSpec := { name := "claimVerdicts", fn := fun _ => fun
  | [d1, d2, d3] => { results := [.lit (.bool false)], args := [d1, d2, d3] }
  | _ => none }
def ClaimVerdictsWrongFalsely : Prop := claimVerdictsRow.holds Try.pinned (OpenSpec.ofChange claimVerdictsWrong)

/-- 'goosenecklaw11.ClaimLogs': WHATEVER THE INPUT: true; the input reads as it did. -/
def claimLogsSpec : ChangeSpec := { name := "claimLogs", fn := fun _ => fun
  | [d1, d2, d3, d4] => { results := [.lit (.bool true)], args := [d1, d2, d3, d4] }
  | _ => none }
def claimLogsRow : OpenClaim := { program := "ytgijpimjfoabjaa", sum := "3533b387678e6f01d63a22c856b1934d7bbea0f920decf18569cad37392fabe4", func := "gooseneck/goosenecklaw11.ClaimLogs", spec := "claimLogs", unfollowed := true, recurses := true, apart := false }
def ClaimLogsSaid : Prop := claimLogsRow.holds Try.pinned (OpenSpec.ofChange claimLogsSpec)

/-- ITS FALSE NEIGHBOUR: 'it returns false'. Refute it at one input. -/
def claimLogsWrong : ChangeSpec := { name := "claimLogs", fn := fun _ => fun
  | [d1, d2, d3, d4] => { results := [.lit (.bool false)], args := [d1, d2, d3, d4] }
  | _ => none }
def ClaimLogsWrongFalsely : Prop := claimLogsRow.holds Try.pinned (OpenSpec.ofChange claimLogsWrong)

/-- 'goosenecklaw11.ClaimProven': WHATEVER THE INPUT: true; the input reads as it did. -/
def claimProvenSpec : ChangeSpec := { name := "claimProven", fn := fun _ => fun
  | [d1, d2, d3, d4] => { results := [.lit (.bool true)], args := [d1, d2, d3, d4] }
  | _ => none }
def claimProvenRow : OpenClaim := { program := "ytgijpimjfoabjaa", sum := "3533b387678e6f01d63a22c856b1934d7bbea0f920decf18569cad37392fabe4", func := "gooseneck/goosenecklaw11.ClaimProven", spec := "claimProven", unfollowed := true, recurses := true, apart := false }
def ClaimProvenSaid : Prop := claimProvenRow.holds Try.pinned (OpenSpec.ofChange claimProvenSpec)

/-- ITS FALSE NEIGHBOUR: 'it returns false'. Refute it at one input. -/
def claimProvenWrong : ChangeSpec := { name := "claimProven", fn := fun _ => fun
  | [d1, d2, d3, d4] => { results := [.lit (.bool false)], args := [d1, d2, d3, d4] }
  | _ => none }
def ClaimProvenWrongFalsely : Prop := claimProvenRow.holds Try.pinned (OpenSpec.ofChange claimProvenWrong)

/- THE SECOND FORM. 'bulk': how many values and letters a reading holds, each counted each time it is reached (what is shared counts as often as it is met; a slice's spare places count too). A statement '..UptoSaid' is the law's where the arguments, and the package variables that the reading takes, are together of bulk at most 1048576: NARROWER than '..Said'. Prove '..Said' where nothing that the law and all that it calls make is longer than what came in: it says more and counts as full. Else prove '..UptoSaid'. A law counts once. -/
mutual
def uptoBulk {H : Type} : DataW H → Nat
  | .lit (.string bytes) => bytes.length + 1
  | .lit _ => 1
  | .nil => 1
  | .ptr d => uptoBulk d + 1
  | .slice elems spare => uptoBulkAll elems + uptoBulkAll spare + 1
  | .agg parts => uptoBulkAll parts + 1
  | .iface _ d => uptoBulk d + 1
  | .map entries => uptoBulkEntries entries + 1
  | .held _ => 1
def uptoBulkAll {H : Type} : List (DataW H) → Nat
  | [] => 0
  | d :: r => uptoBulk d + uptoBulkAll r
def uptoBulkEntries {H : Type} : List (Lit × DataW H) → Nat
  | [] => 0
  | x :: r => uptoBulkEntry x + uptoBulkEntries r
def uptoBulkEntry {H : Type} : Lit × DataW H → Nat
  | (.string bytes, d) => bytes.length + uptoBulk d + 1
  | (_, d) => uptoBulk d + 1
 end
def uptoSmall : (H : Type) → List (DataW H) → Bool := fun _ ds => decide (uptoBulkAll ds ≤ 1048576)
def OpenSpec.upto (s : _root_.Go.ChangeSpec) : _root_.Go.OpenSpec := { _root_.Go.OpenSpec.ofChange s with cond := some uptoSmall }

/-- 'goosenecklaw11.ClaimNarrower', WHERE WHAT IT READS IS OF BULK AT MOST 1048576: true; the input reads as it did. -/
def claimNarrowerUptoRow : OpenClaim := { program := "ytgijpimjfoabjaa", sum := "3533b387678e6f01d63a22c856b1934d7bbea0f920decf18569cad37392fabe4", func := "gooseneck/goosenecklaw11.ClaimNarrower", spec := "claimNarrower", unfollowed := true, recurses := true, apart := false, narrowed := true }
def ClaimNarrowerUptoSaid : Prop := claimNarrowerUptoRow.holds Try.pinned (OpenSpec.upto claimNarrowerSpec)

/-- 'goosenecklaw11.ClaimWider', WHERE WHAT IT READS IS OF BULK AT MOST 1048576: true; the input reads as it did. -/
def claimWiderUptoRow : OpenClaim := { program := "ytgijpimjfoabjaa", sum := "3533b387678e6f01d63a22c856b1934d7bbea0f920decf18569cad37392fabe4", func := "gooseneck/goosenecklaw11.ClaimWider", spec := "claimWider", unfollowed := true, recurses := true, apart := false, narrowed := true }
def ClaimWiderUptoSaid : Prop := claimWiderUptoRow.holds Try.pinned (OpenSpec.upto claimWiderSpec)

/-- 'goosenecklaw11.ClaimSettles', WHERE WHAT IT READS IS OF BULK AT MOST 1048576: true; the input reads as it did. -/
def claimSettlesUptoRow : OpenClaim := { program := "ytgijpimjfoabjaa", sum := "3533b387678e6f01d63a22c856b1934d7bbea0f920decf18569cad37392fabe4", func := "gooseneck/goosenecklaw11.ClaimSettles", spec := "claimSettles", unfollowed := true, recurses := true, apart := false, narrowed := true }
def ClaimSettlesUptoSaid : Prop := claimSettlesUptoRow.holds Try.pinned (OpenSpec.upto claimSettlesSpec)

/-- 'goosenecklaw11.ClaimPaid', WHERE WHAT IT READS IS OF BULK AT MOST 1048576: true; the input reads as it did. -/
def claimPaidUptoRow : OpenClaim := { program := "ytgijpimjfoabjaa", sum := "3533b387678e6f01d63a22c856b1934d7bbea0f920decf18569cad37392fabe4", func := "gooseneck/goosenecklaw11.ClaimPaid", spec := "claimPaid", unfollowed := true, recurses := true, apart := false, narrowed := true }
def ClaimPaidUptoSaid : Prop := claimPaidUptoRow.holds Try.pinned (OpenSpec.upto claimPaidSpec)

/-- 'goosenecklaw11.ClaimSpans', WHERE WHAT IT READS IS OF BULK AT MOST 1048576: true; the input reads as it did. -/
def claimSpansUptoRow : OpenClaim := { program := "ytgijpimjfoabjaa", sum := "3533b387678e6f01d63a22c856b1934d7bbea0f920decf18569cad37392fabe4", func := "gooseneck/goosenecklaw11.ClaimSpans", spec := "claimSpans", unfollowed := true, recurses := true, apart := false, narrowed := true }
def ClaimSpansUptoSaid : Prop := claimSpansUptoRow.holds Try.pinned (OpenSpec.upto claimSpansSpec)

/-- 'goosenecklaw11.ClaimVerdicts', WHERE WHAT IT READS IS OF BULK AT MOST 1048576: true; the input reads as it did. -/
def claimVerdictsUptoRow : OpenClaim := { program := "ytgijpimjfoabjaa", sum := "3533b387678e6f01d63a22c856b1934d7bbea0f920decf18569cad37392fabe4", func := "gooseneck/goosenecklaw11.ClaimVerdicts", spec := "claimVerdicts", unfollowed := true, recurses := true, apart := false, narrowed := true }
def ClaimVerdictsUptoSaid : Prop := claimVerdictsUptoRow.holds Try.pinned (OpenSpec.upto claimVerdictsSpec)

/-- 'goosenecklaw11.ClaimLogs', WHERE WHAT IT READS IS OF BULK AT MOST 1048576: true; the input reads as it did. -/
def claimLogsUptoRow : OpenClaim := { program := "ytgijpimjfoabjaa", sum := "3533b387678e6f01d63a22c856b1934d7bbea0f920decf18569cad37392fabe4", func := "gooseneck/goosenecklaw11.ClaimLogs", spec := "claimLogs", unfollowed := true, recurses := true, apart := false, narrowed := true }
def ClaimLogsUptoSaid : Prop := claimLogsUptoRow.holds Try.pinned (OpenSpec.upto claimLogsSpec)

/-- 'goosenecklaw11.ClaimProven', WHERE WHAT IT READS IS OF BULK AT MOST 1048576: true; the input reads as it did. -/
def claimProvenUptoRow : OpenClaim := { program := "ytgijpimjfoabjaa", sum := "3533b387678e6f01d63a22c856b1934d7bbea0f920decf18569cad37392fabe4", func := "gooseneck/goosenecklaw11.ClaimProven", spec := "claimProven", unfollowed := true, recurses := true, apart := false, narrowed := true }
def ClaimProvenUptoSaid : Prop := claimProvenUptoRow.holds Try.pinned (OpenSpec.upto claimProvenSpec)

end Rows
end Go.Proofs.Ytgijpimjfoabjaa
