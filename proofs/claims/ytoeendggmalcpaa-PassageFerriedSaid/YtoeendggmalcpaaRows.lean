/-
  No cell of these rows narrows 'for every input' (looked for: loops, veiled, ifaces, maps, wideKeys, modest, calm, conditions, laid).
  DERIVED. THE GIVEN ROWS OF THIS SEAT. 11 by the template 'for every input the law returns true; each argument reads behind the call as it read before'; 0 by the template 'total and deterministic' (their statements: YtoeendggmalcpaaTotals.lean).
  GIVEN WITH THE SEED: the statements are not yours to turn. If you find one false, say at which input.
  Laid BY PROGRAM, IN A SANDBOX (cutbox-rows.mjs): the forced cells as the released guide's own fill.sh prints them over the translation 4036adbb1b728ff8… (all of the seat's roots in one cut). By AI agents, Wed Nov 11 2026. No macro, syntax, notation, axiom, sorry.
-/
import Derived.Test.YtoeendggmalcpaaChecked
import GoSem.Claim
import GoSem.ClaimJoined
import GoSem.ClaimMapViews
import Derived.JoinedTies
import Derived.KernelRfl
namespace Go.Proofs.Ytoeendggmalcpaa
/- THE CELL 'sum', in the pinned program and in every row, IS THE sha256 OF THE DUMP (.gsa) THAT YtoeendggmalcpaaProg.lean LOADS. Nothing in Lean hashes anything: it is a label: what it is worth is what the hold of that sum in a sandbox is worth. -/
noncomputable def Try.pinned : Pinned := { name := "ytoeendggmalcpaa", sum := "4036adbb1b728ff8ad4ffe09ff6463d554ec32ac8ac2f3db3c1c6143ef7e1907", checked := Try.checked }
namespace Rows
def none {H : Type} : Left H := { results := [], args := [] }

/-- 'limitrophelaw09.PassageTurned': WHATEVER THE INPUT: true; the input reads as it did. -/
def passageTurnedSpec : ChangeSpec := { name := "passageTurned", fn := fun _ => fun
  | [d1, d2] => { results := [.lit (.bool true)], args := [d1, d2] }
  | _ => none }
def passageTurnedRow : OpenClaim := { program := "ytoeendggmalcpaa", sum := "4036adbb1b728ff8ad4ffe09ff6463d554ec32ac8ac2f3db3c1c6143ef7e1907", func := "limitrophe/limitrophelaw09.PassageTurned", spec := "passageTurned", unfollowed := true, recurses := true, plainKeys := false, apart := false }
def PassageTurnedSaid : Prop := passageTurnedRow.holds Try.pinned (OpenSpec.ofChange passageTurnedSpec)

/-- ITS FALSE NEIGHBOUR: 'it returns false'. Refute it at one input. -/
def passageTurnedWrong : ChangeSpec := { name := "passageTurned", fn := fun _ => fun
  | [d1, d2] => { results := [.lit (.bool false)], args := [d1, d2] }
  | _ => none }
def PassageTurnedWrongFalsely : Prop := passageTurnedRow.holds Try.pinned (OpenSpec.ofChange passageTurnedWrong)

/-- 'limitrophelaw09.PassageNarrow': WHATEVER THE INPUT: true; the input reads as it did. -/
def passageNarrowSpec : ChangeSpec := { name := "passageNarrow", fn := fun _ => fun
  | [d] => { results := [.lit (.bool true)], args := [d] }
  | _ => none }
def passageNarrowRow : OpenClaim := { program := "ytoeendggmalcpaa", sum := "4036adbb1b728ff8ad4ffe09ff6463d554ec32ac8ac2f3db3c1c6143ef7e1907", func := "limitrophe/limitrophelaw09.PassageNarrow", spec := "passageNarrow", unfollowed := true, recurses := true, plainKeys := false, apart := false }
def PassageNarrowSaid : Prop := passageNarrowRow.holds Try.pinned (OpenSpec.ofChange passageNarrowSpec)

/-- ITS FALSE NEIGHBOUR: 'it returns false'. Refute it at one input. -/
def passageNarrowWrong : ChangeSpec := { name := "passageNarrow", fn := fun _ => fun
  | [d] => { results := [.lit (.bool false)], args := [d] }
  | _ => none }
def PassageNarrowWrongFalsely : Prop := passageNarrowRow.holds Try.pinned (OpenSpec.ofChange passageNarrowWrong)

/-- 'limitrophelaw09.PassageRoutes': WHATEVER THE INPUT: true; the input reads as it did. -/
def passageRoutesSpec : ChangeSpec := { name := "passageRoutes", fn := fun _ => fun
  | [d1, d2, d3, d4, d5, d6] => { results := [.lit (.bool true)], args := [d1, d2, d3, d4, d5, d6] }
  | _ => none }
def passageRoutesRow : OpenClaim := { program := "ytoeendggmalcpaa", sum := "4036adbb1b728ff8ad4ffe09ff6463d554ec32ac8ac2f3db3c1c6143ef7e1907", func := "limitrophe/limitrophelaw09.PassageRoutes", spec := "passageRoutes", unfollowed := true, recurses := true, plainKeys := false, apart := false }
def PassageRoutesSaid : Prop := passageRoutesRow.holds Try.pinned (OpenSpec.ofChange passageRoutesSpec)

/-- ITS FALSE NEIGHBOUR: 'it returns false'. Refute it at one input. -/
def passageRoutesWrong : ChangeSpec := { name := "passageRoutes", fn := fun _ => fun
  | [d1, d2, d3, d4, d5, d6] => { results := [.lit (.bool false)], args := [d1, d2, d3, d4, d5, d6] }
  | _ => none }
def PassageRoutesWrongFalsely : Prop := passageRoutesRow.holds Try.pinned (OpenSpec.ofChange passageRoutesWrong)

/-- 'limitrophelaw09.PassageMore': WHATEVER THE INPUT: true; the input reads as it did. -/
def passageMoreSpec : ChangeSpec := { name := "passageMore", fn := fun _ => fun
  | [d1, d2] => { results := [.lit (.bool true)], args := [d1, d2] }
  | _ => none }
def passageMoreRow : OpenClaim := { program := "ytoeendggmalcpaa", sum := "4036adbb1b728ff8ad4ffe09ff6463d554ec32ac8ac2f3db3c1c6143ef7e1907", func := "limitrophe/limitrophelaw09.PassageMore", spec := "passageMore", unfollowed := true, recurses := true, plainKeys := false, apart := false }
def PassageMoreSaid : Prop := passageMoreRow.holds Try.pinned (OpenSpec.ofChange passageMoreSpec)

/-- ITS FALSE NEIGHBOUR: 'it returns false'. Refute it at one input. -/
def passageMoreWrong : ChangeSpec := { name := "passageMore", fn := fun _ => fun
  | [d1, d2] => { results := [.lit (.bool false)], args := [d1, d2] }
  | _ => none }
def PassageMoreWrongFalsely : Prop := passageMoreRow.holds Try.pinned (OpenSpec.ofChange passageMoreWrong)

/-- 'limitrophelaw09.PassageDrives': WHATEVER THE INPUT: true; the input reads as it did. -/
def passageDrivesSpec : ChangeSpec := { name := "passageDrives", fn := fun _ => fun
  | [d1, d2, d3, d4, d5] => { results := [.lit (.bool true)], args := [d1, d2, d3, d4, d5] }
  | _ => none }
def passageDrivesRow : OpenClaim := { program := "ytoeendggmalcpaa", sum := "4036adbb1b728ff8ad4ffe09ff6463d554ec32ac8ac2f3db3c1c6143ef7e1907", func := "limitrophe/limitrophelaw09.PassageDrives", spec := "passageDrives", unfollowed := true, recurses := true, plainKeys := false, apart := false }
def PassageDrivesSaid : Prop := passageDrivesRow.holds Try.pinned (OpenSpec.ofChange passageDrivesSpec)

/-- ITS FALSE NEIGHBOUR: 'it returns false'. Refute it at one input. -/
def passageDrivesWrong : ChangeSpec := { name := "passageDrives", fn := fun _ => fun
  | [d1, d2, d3, d4, d5] => { results := [.lit (.bool false)], args := [d1, d2, d3, d4, d5] }
  | _ => none }
def PassageDrivesWrongFalsely : Prop := passageDrivesRow.holds Try.pinned (OpenSpec.ofChange passageDrivesWrong)

/-- 'limitrophelaw09.PassageCarried': WHATEVER THE INPUT: true; the input reads as it did. -/
def passageCarriedSpec : ChangeSpec := { name := "passageCarried", fn := fun _ => fun
  | [d1, d2] => { results := [.lit (.bool true)], args := [d1, d2] }
  | _ => none }
def passageCarriedRow : OpenClaim := { program := "ytoeendggmalcpaa", sum := "4036adbb1b728ff8ad4ffe09ff6463d554ec32ac8ac2f3db3c1c6143ef7e1907", func := "limitrophe/limitrophelaw09.PassageCarried", spec := "passageCarried", unfollowed := true, recurses := true, plainKeys := false, apart := false }
def PassageCarriedSaid : Prop := passageCarriedRow.holds Try.pinned (OpenSpec.ofChange passageCarriedSpec)

/-- ITS FALSE NEIGHBOUR: 'it returns false'. Refute it at one input. -/
def passageCarriedWrong : ChangeSpec := { name := "passageCarried", fn := fun _ => fun
  | [d1, d2] => { results := [.lit (.bool false)], args := [d1, d2] }
  | _ => none }
def PassageCarriedWrongFalsely : Prop := passageCarriedRow.holds Try.pinned (OpenSpec.ofChange passageCarriedWrong)

/-- 'limitrophelaw09.PassageCalendars': WHATEVER THE INPUT: true; the input reads as it did. -/
def passageCalendarsSpec : ChangeSpec := { name := "passageCalendars", fn := fun _ => fun
  | [d1, d2, d3, d4] => { results := [.lit (.bool true)], args := [d1, d2, d3, d4] }
  | _ => none }
def passageCalendarsRow : OpenClaim := { program := "ytoeendggmalcpaa", sum := "4036adbb1b728ff8ad4ffe09ff6463d554ec32ac8ac2f3db3c1c6143ef7e1907", func := "limitrophe/limitrophelaw09.PassageCalendars", spec := "passageCalendars", unfollowed := true, recurses := true, plainKeys := false, apart := false }
def PassageCalendarsSaid : Prop := passageCalendarsRow.holds Try.pinned (OpenSpec.ofChange passageCalendarsSpec)

/-- ITS FALSE NEIGHBOUR: 'it returns false'. Refute it at one input. -/
def passageCalendarsWrong : ChangeSpec := { name := "passageCalendars", fn := fun _ => fun
  | [d1, d2, d3, d4] => { results := [.lit (.bool false)], args := [d1, d2, d3, d4] }
  | _ => none }
def PassageCalendarsWrongFalsely : Prop := passageCalendarsRow.holds Try.pinned (OpenSpec.ofChange passageCalendarsWrong)

/-- 'limitrophelaw09.PassageFound': WHATEVER THE INPUT: true; the input reads as it did. -/
def passageFoundSpec : ChangeSpec := { name := "passageFound", fn := fun _ => fun
  | [d1, d2] => { results := [.lit (.bool true)], args := [d1, d2] }
  | _ => none }
def passageFoundRow : OpenClaim := { program := "ytoeendggmalcpaa", sum := "4036adbb1b728ff8ad4ffe09ff6463d554ec32ac8ac2f3db3c1c6143ef7e1907", func := "limitrophe/limitrophelaw09.PassageFound", spec := "passageFound", unfollowed := true, recurses := true, plainKeys := false, apart := false }
def PassageFoundSaid : Prop := passageFoundRow.holds Try.pinned (OpenSpec.ofChange passageFoundSpec)

/-- ITS FALSE NEIGHBOUR: 'it returns false'. Refute it at one input. -/
def passageFoundWrong : ChangeSpec := { name := "passageFound", fn := fun _ => fun
  | [d1, d2] => { results := [.lit (.bool false)], args := [d1, d2] }
  | _ => none }
def PassageFoundWrongFalsely : Prop := passageFoundRow.holds Try.pinned (OpenSpec.ofChange passageFoundWrong)

/-- 'limitrophelaw09.PassageProved': WHATEVER THE INPUT: true; the input reads as it did. -/
def passageProvedSpec : ChangeSpec := { name := "passageProved", fn := fun _ => fun
  | [d1, d2] => { results := [.lit (.bool true)], args := [d1, d2] }
  | _ => none }
def passageProvedRow : OpenClaim := { program := "ytoeendggmalcpaa", sum := "4036adbb1b728ff8ad4ffe09ff6463d554ec32ac8ac2f3db3c1c6143ef7e1907", func := "limitrophe/limitrophelaw09.PassageProved", spec := "passageProved", unfollowed := true, recurses := true, plainKeys := false, apart := false }
def PassageProvedSaid : Prop := passageProvedRow.holds Try.pinned (OpenSpec.ofChange passageProvedSpec)

/-- ITS FALSE NEIGHBOUR: 'it returns false'. Refute it at one input. -/
def passageProvedWrong : ChangeSpec := { name := "passageProved", fn := fun _ => fun
  | [d1, d2] => { results := [.lit (.bool false)], args := [d1, d2] }
  | _ => none }
def PassageProvedWrongFalsely : Prop := passageProvedRow.holds Try.pinned (OpenSpec.ofChange passageProvedWrong)

/-- 'limitrophelaw09.PassageSeen': WHATEVER THE INPUT: true; the input reads as it did. -/
def passageSeenSpec : ChangeSpec := { name := "passageSeen", fn := fun _ => fun
  | [d1, d2, d3, d4] => { results := [.lit (.bool true)], args := [d1, d2, d3, d4] }
  | _ => none }
def passageSeenRow : OpenClaim := { program := "ytoeendggmalcpaa", sum := "4036adbb1b728ff8ad4ffe09ff6463d554ec32ac8ac2f3db3c1c6143ef7e1907", func := "limitrophe/limitrophelaw09.PassageSeen", spec := "passageSeen", unfollowed := true, recurses := true, plainKeys := false, apart := false }
def PassageSeenSaid : Prop := passageSeenRow.holds Try.pinned (OpenSpec.ofChange passageSeenSpec)

/-- ITS FALSE NEIGHBOUR: 'it returns false'. Refute it at one input. -/
def passageSeenWrong : ChangeSpec := { name := "passageSeen", fn := fun _ => fun
  | [d1, d2, d3, d4] => { results := [.lit (.bool false)], args := [d1, d2, d3, d4] }
  | _ => none }
def PassageSeenWrongFalsely : Prop := passageSeenRow.holds Try.pinned (OpenSpec.ofChange passageSeenWrong)

/-- 'limitrophelaw09.PassageFerried': WHATEVER THE INPUT: true; the input reads as it did. -/
def passageFerriedSpec : ChangeSpec := { name := "passageFerried", fn := fun _ => fun
  | [d1, d2] => { results := [.lit (.bool true)], args := [d1, d2] }
  | _ => none }
def passageFerriedRow : OpenClaim := { program := "ytoeendggmalcpaa", sum := "4036adbb1b728ff8ad4ffe09ff6463d554ec32ac8ac2f3db3c1c6143ef7e1907", func := "limitrophe/limitrophelaw09.PassageFerried", spec := "passageFerried", unfollowed := true, recurses := true, plainKeys := false, apart := false }
def PassageFerriedSaid : Prop := passageFerriedRow.holds Try.pinned (OpenSpec.ofChange passageFerriedSpec)

/-- ITS FALSE NEIGHBOUR: 'it returns false'. Refute it at one input. -/
def passageFerriedWrong : ChangeSpec := { name := "passageFerried", fn := fun _ => fun
  | [d1, d2] => { results := [.lit (.bool false)], args := [d1, d2] }
  | _ => none }
def PassageFerriedWrongFalsely : Prop := passageFerriedRow.holds Try.pinned (OpenSpec.ofChange passageFerriedWrong)

/- THE SECOND FORM. 'bulk': how many values and letters a reading holds, each counted each time it is reached (what is shared counts as often as it is met; a slice's spare places count too). A statement '..UptoSaid' is the law's where the arguments, and the package variables that the reading takes, are together of bulk at most 1048576: NARROWER than '..Said'. Prove '..Said' where nothing that the law and all that it calls make is longer than what came in: it says more and counts as full. Else prove '..UptoSaid'. A law counts once. -/
mutual
def uptoBulk {H : Type} : DataW H → Nat
  | .lit (.string bytes) => bytes.length + 1
  | .lit _ => 1
  | .nil => 1
  | .ptr d => uptoBulk d + 1
  | .slice elems spare => uptoBulkAll elems + uptoBulkAll spare + 1
  | .agg parts => uptoBulkAll parts + 1
  | .iface _ d => uptoBulk d + 1
  | .map entries => uptoBulkEntries entries + 1
  | .held _ => 1
def uptoBulkAll {H : Type} : List (DataW H) → Nat
  | [] => 0
  | d :: r => uptoBulk d + uptoBulkAll r
def uptoBulkEntries {H : Type} : List (Lit × DataW H) → Nat
  | [] => 0
  | x :: r => uptoBulkEntry x + uptoBulkEntries r
def uptoBulkEntry {H : Type} : Lit × DataW H → Nat
  | (.string bytes, d) => bytes.length + uptoBulk d + 1
  | (_, d) => uptoBulk d + 1
 end
def uptoSmall : (H : Type) → List (DataW H) → Bool := fun _ ds => decide (uptoBulkAll ds ≤ 1048576)
def OpenSpec.upto (s : _root_.Go.ChangeSpec) : _root_.Go.OpenSpec := { _root_.Go.OpenSpec.ofChange s with cond := some uptoSmall }

/-- 'limitrophelaw09.PassageTurned', WHERE WHAT IT READS IS OF BULK AT MOST 1048576: true; the input reads as it did. -/
def passageTurnedUptoRow : OpenClaim := { program := "ytoeendggmalcpaa", sum := "4036adbb1b728ff8ad4ffe09ff6463d554ec32ac8ac2f3db3c1c6143ef7e1907", func := "limitrophe/limitrophelaw09.PassageTurned", spec := "passageTurned", unfollowed := true, recurses := true, plainKeys := false, apart := false, narrowed := true }
def PassageTurnedUptoSaid : Prop := passageTurnedUptoRow.holds Try.pinned (OpenSpec.upto passageTurnedSpec)

/-- 'limitrophelaw09.PassageNarrow', WHERE WHAT IT READS IS OF BULK AT MOST 1048576: true; the input reads as it did. -/
def passageNarrowUptoRow : OpenClaim := { program := "ytoeendggmalcpaa", sum := "4036adbb1b728ff8ad4ffe09ff6463d554ec32ac8ac2f3db3c1c6143ef7e1907", func := "limitrophe/limitrophelaw09.PassageNarrow", spec := "passageNarrow", unfollowed := true, recurses := true, plainKeys := false, apart := false, narrowed := true }
def PassageNarrowUptoSaid : Prop := passageNarrowUptoRow.holds Try.pinned (OpenSpec.upto passageNarrowSpec)

/-- 'limitrophelaw09.PassageRoutes', WHERE WHAT IT READS IS OF BULK AT MOST 1048576: true; the input reads as it did. -/
def passageRoutesUptoRow : OpenClaim := { program := "ytoeendggmalcpaa", sum := "4036adbb1b728ff8ad4ffe09ff6463d554ec32ac8ac2f3db3c1c6143ef7e1907", func := "limitrophe/limitrophelaw09.PassageRoutes", spec := "passageRoutes", unfollowed := true, recurses := true, plainKeys := false, apart := false, narrowed := true }
def PassageRoutesUptoSaid : Prop := passageRoutesUptoRow.holds Try.pinned (OpenSpec.upto passageRoutesSpec)

/-- 'limitrophelaw09.PassageMore', WHERE WHAT IT READS IS OF BULK AT MOST 1048576: true; the input reads as it did. -/
def passageMoreUptoRow : OpenClaim := { program := "ytoeendggmalcpaa", sum := "4036adbb1b728ff8ad4ffe09ff6463d554ec32ac8ac2f3db3c1c6143ef7e1907", func := "limitrophe/limitrophelaw09.PassageMore", spec := "passageMore", unfollowed := true, recurses := true, plainKeys := false, apart := false, narrowed := true }
def PassageMoreUptoSaid : Prop := passageMoreUptoRow.holds Try.pinned (OpenSpec.upto passageMoreSpec)

/-- 'limitrophelaw09.PassageDrives', WHERE WHAT IT READS IS OF BULK AT MOST 1048576: true; the input reads as it did. -/
def passageDrivesUptoRow : OpenClaim := { program := "ytoeendggmalcpaa", sum := "4036adbb1b728ff8ad4ffe09ff6463d554ec32ac8ac2f3db3c1c6143ef7e1907", func := "limitrophe/limitrophelaw09.PassageDrives", spec := "passageDrives", unfollowed := true, recurses := true, plainKeys := false, apart := false, narrowed := true }
def PassageDrivesUptoSaid : Prop := passageDrivesUptoRow.holds Try.pinned (OpenSpec.upto passageDrivesSpec)

/-- 'limitrophelaw09.PassageCarried', WHERE WHAT IT READS IS OF BULK AT MOST 1048576: true; the input reads as it did. -/
def passageCarriedUptoRow : OpenClaim := { program := "ytoeendggmalcpaa", sum := "4036adbb1b728ff8ad4ffe09ff6463d554ec32ac8ac2f3db3c1c6143ef7e1907", func := "limitrophe/limitrophelaw09.PassageCarried", spec := "passageCarried", unfollowed := true, recurses := true, plainKeys := false, apart := false, narrowed := true }
def PassageCarriedUptoSaid : Prop := passageCarriedUptoRow.holds Try.pinned (OpenSpec.upto passageCarriedSpec)

/-- 'limitrophelaw09.PassageCalendars', WHERE WHAT IT READS IS OF BULK AT MOST 1048576: true; the input reads as it did. -/
def passageCalendarsUptoRow : OpenClaim := { program := "ytoeendggmalcpaa", sum := "4036adbb1b728ff8ad4ffe09ff6463d554ec32ac8ac2f3db3c1c6143ef7e1907", func := "limitrophe/limitrophelaw09.PassageCalendars", spec := "passageCalendars", unfollowed := true, recurses := true, plainKeys := false, apart := false, narrowed := true }
def PassageCalendarsUptoSaid : Prop := passageCalendarsUptoRow.holds Try.pinned (OpenSpec.upto passageCalendarsSpec)

/-- 'limitrophelaw09.PassageFound', WHERE WHAT IT READS IS OF BULK AT MOST 1048576: true; the input reads as it did. -/
def passageFoundUptoRow : OpenClaim := { program := "ytoeendggmalcpaa", sum := "4036adbb1b728ff8ad4ffe09ff6463d554ec32ac8ac2f3db3c1c6143ef7e1907", func := "limitrophe/limitrophelaw09.PassageFound", spec := "passageFound", unfollowed := true, recurses := true, plainKeys := false, apart := false, narrowed := true }
def PassageFoundUptoSaid : Prop := passageFoundUptoRow.holds Try.pinned (OpenSpec.upto passageFoundSpec)

/-- 'limitrophelaw09.PassageProved', WHERE WHAT IT READS IS OF BULK AT MOST 1048576: true; the input reads as it did. -/
def passageProvedUptoRow : OpenClaim := { program := "ytoeendggmalcpaa", sum := "4036adbb1b728ff8ad4ffe09ff6463d554ec32ac8ac2f3db3c1c6143ef7e1907", func := "limitrophe/limitrophelaw09.PassageProved", spec := "passageProved", unfollowed := true, recurses := true, plainKeys := false, apart := false, narrowed := true }
def PassageProvedUptoSaid : Prop := passageProvedUptoRow.holds Try.pinned (OpenSpec.upto passageProvedSpec)

/-- 'limitrophelaw09.PassageSeen', WHERE WHAT IT READS IS OF BULK AT MOST 1048576: true; the input reads as it did. -/
def passageSeenUptoRow : OpenClaim := { program := "ytoeendggmalcpaa", sum := "4036adbb1b728ff8ad4ffe09ff6463d554ec32ac8ac2f3db3c1c6143ef7e1907", func := "limitrophe/limitrophelaw09.PassageSeen", spec := "passageSeen", unfollowed := true, recurses := true, plainKeys := false, apart := false, narrowed := true }
def PassageSeenUptoSaid : Prop := passageSeenUptoRow.holds Try.pinned (OpenSpec.upto passageSeenSpec)

/-- 'limitrophelaw09.PassageFerried', WHERE WHAT IT READS IS OF BULK AT MOST 1048576: true; the input reads as it did. -/
def passageFerriedUptoRow : OpenClaim := { program := "ytoeendggmalcpaa", sum := "4036adbb1b728ff8ad4ffe09ff6463d554ec32ac8ac2f3db3c1c6143ef7e1907", func := "limitrophe/limitrophelaw09.PassageFerried", spec := "passageFerried", unfollowed := true, recurses := true, plainKeys := false, apart := false, narrowed := true }
def PassageFerriedUptoSaid : Prop := passageFerriedUptoRow.holds Try.pinned (OpenSpec.upto passageFerriedSpec)

end Rows
end Go.Proofs.Ytoeendggmalcpaa
