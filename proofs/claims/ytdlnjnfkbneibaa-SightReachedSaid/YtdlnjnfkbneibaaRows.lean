/-
  No cell of these rows narrows 'for every input' (looked for: loops, veiled, ifaces, maps, wideKeys, modest, calm, conditions, laid).
  DERIVED. THE GIVEN ROWS OF THIS SEAT. 6 by the template 'for every input the law returns true; each argument reads behind the call as it read before'; 0 by the template 'total and deterministic' (their statements: YtdlnjnfkbneibaaTotals.lean).
  GIVEN WITH THE SEED: the statements are not yours to turn. If you find one false, say at which input.
  Laid BY PROGRAM, IN A SANDBOX (cutbox-rows.mjs): the forced cells as the released guide's own fill.sh prints them over the translation ecd2b987298e60c8… (all of the seat's roots in one cut). By AI agents, Wed Nov 11 2026. No macro, syntax, notation, axiom, sorry.
-/
import Derived.Test.YtdlnjnfkbneibaaChecked
import GoSem.Claim
import GoSem.ClaimJoined
import GoSem.ClaimMapViews
import Derived.JoinedTies
import Derived.KernelRfl
namespace Go.Proofs.Ytdlnjnfkbneibaa
/- THE CELL 'sum', in the pinned program and in every row, IS THE sha256 OF THE DUMP (.gsa) THAT YtdlnjnfkbneibaaProg.lean LOADS. Nothing in Lean hashes anything: it is a label: what it is worth is what the hold of that sum in a sandbox is worth. -/
noncomputable def Try.pinned : Pinned := { name := "ytdlnjnfkbneibaa", sum := "ecd2b987298e60c8fc9cc72de90129b061d5b3b418e328e3823a6b8c54895422", checked := Try.checked }
namespace Rows
def none {H : Type} : Left H := { results := [], args := [] }

/-- 'limitrophelaw03.SightBounds': WHATEVER THE INPUT: true; the input reads as it did. -/
def sightBoundsSpec : ChangeSpec := { name := "sightBounds", fn := fun _ => fun
  | [d1, d2] => { results := [.lit (.bool true)], args := [d1, d2] }
  | _ => none }
def sightBoundsRow : OpenClaim := { program := "ytdlnjnfkbneibaa", sum := "ecd2b987298e60c8fc9cc72de90129b061d5b3b418e328e3823a6b8c54895422", func := "limitrophe/limitrophelaw03.SightBounds", spec := "sightBounds", unfollowed := true, recurses := true, plainKeys := false, apart := false }
def SightBoundsSaid : Prop := sightBoundsRow.holds Try.pinned (OpenSpec.ofChange sightBoundsSpec)

/-- ITS FALSE NEIGHBOUR: 'it returns false'. Refute it at one input. -/
def sightBoundsWrong : ChangeSpec := { name := "sightBounds", fn := fun _ => fun
  | [d1, d2] => { results := [.lit (.bool false)], args := [d1, d2] }
  | _ => none }
def SightBoundsWrongFalsely : Prop := sightBoundsRow.holds Try.pinned (OpenSpec.ofChange sightBoundsWrong)

/-- 'limitrophelaw03.SightTrue': WHATEVER THE INPUT: true; the input reads as it did. -/
def sightTrueSpec : ChangeSpec := { name := "sightTrue", fn := fun _ => fun
  | [d1, d2, d3] => { results := [.lit (.bool true)], args := [d1, d2, d3] }
  | _ => none }
def sightTrueRow : OpenClaim := { program := "ytdlnjnfkbneibaa", sum := "ecd2b987298e60c8fc9cc72de90129b061d5b3b418e328e3823a6b8c54895422", func := "limitrophe/limitrophelaw03.SightTrue", spec := "sightTrue", unfollowed := true, recurses := true, plainKeys := false, apart := false }
def SightTrueSaid : Prop := sightTrueRow.holds Try.pinned (OpenSpec.ofChange sightTrueSpec)

/-- ITS FALSE NEIGHBOUR: 'it returns false'. Refute it at one input. -/
def sightTrueWrong : ChangeSpec := { name := "sightTrue", fn := fun _ => fun
  | [d1, d2, d3] => { results := [.lit (.bool false)], args := [d1, d2, d3] }
  | _ => none }
def SightTrueWrongFalsely : Prop := sightTrueRow.holds Try.pinned (OpenSpec.ofChange sightTrueWrong)

/-- 'limitrophelaw03.SightMoved': WHATEVER THE INPUT: true; the input reads as it did. -/
def sightMovedSpec : ChangeSpec := { name := "sightMoved", fn := fun _ => fun
  | [d1, d2, d3, d4] => { results := [.lit (.bool true)], args := [d1, d2, d3, d4] }
  | _ => none }
def sightMovedRow : OpenClaim := { program := "ytdlnjnfkbneibaa", sum := "ecd2b987298e60c8fc9cc72de90129b061d5b3b418e328e3823a6b8c54895422", func := "limitrophe/limitrophelaw03.SightMoved", spec := "sightMoved", unfollowed := true, recurses := true, plainKeys := false, apart := false }
def SightMovedSaid : Prop := sightMovedRow.holds Try.pinned (OpenSpec.ofChange sightMovedSpec)

/-- ITS FALSE NEIGHBOUR: 'it returns false'. Refute it at one input. -/
def sightMovedWrong : ChangeSpec := { name := "sightMoved", fn := fun _ => fun
  | [d1, d2, d3, d4] => { results := [.lit (.bool false)], args := [d1, d2, d3, d4] }
  | _ => none }
def SightMovedWrongFalsely : Prop := sightMovedRow.holds Try.pinned (OpenSpec.ofChange sightMovedWrong)

/-- 'limitrophelaw03.SightMore': WHATEVER THE INPUT: true; the input reads as it did. -/
def sightMoreSpec : ChangeSpec := { name := "sightMore", fn := fun _ => fun
  | [d1, d2, d3] => { results := [.lit (.bool true)], args := [d1, d2, d3] }
  | _ => none }
def sightMoreRow : OpenClaim := { program := "ytdlnjnfkbneibaa", sum := "ecd2b987298e60c8fc9cc72de90129b061d5b3b418e328e3823a6b8c54895422", func := "limitrophe/limitrophelaw03.SightMore", spec := "sightMore", unfollowed := true, recurses := true, plainKeys := false, apart := false }
def SightMoreSaid : Prop := sightMoreRow.holds Try.pinned (OpenSpec.ofChange sightMoreSpec)

/-- ITS FALSE NEIGHBOUR: 'it returns false'. Refute it at one input. -/
def sightMoreWrong : ChangeSpec := { name := "sightMore", fn := fun _ => fun
  | [d1, d2, d3] => { results := [.lit (.bool false)], args := [d1, d2, d3] }
  | _ => none }
def SightMoreWrongFalsely : Prop := sightMoreRow.holds Try.pinned (OpenSpec.ofChange sightMoreWrong)

/-- 'limitrophelaw03.SightTurned': WHATEVER THE INPUT: true; the input reads as it did. -/
def sightTurnedSpec : ChangeSpec := { name := "sightTurned", fn := fun _ => fun
  | [d1, d2, d3, d4] => { results := [.lit (.bool true)], args := [d1, d2, d3, d4] }
  | _ => none }
def sightTurnedRow : OpenClaim := { program := "ytdlnjnfkbneibaa", sum := "ecd2b987298e60c8fc9cc72de90129b061d5b3b418e328e3823a6b8c54895422", func := "limitrophe/limitrophelaw03.SightTurned", spec := "sightTurned", unfollowed := true, recurses := true, plainKeys := false, apart := false }
def SightTurnedSaid : Prop := sightTurnedRow.holds Try.pinned (OpenSpec.ofChange sightTurnedSpec)

/-- ITS FALSE NEIGHBOUR: 'it returns false'. Refute it at one input. -/
def sightTurnedWrong : ChangeSpec := { name := "sightTurned", fn := fun _ => fun
  | [d1, d2, d3, d4] => { results := [.lit (.bool false)], args := [d1, d2, d3, d4] }
  | _ => none }
def SightTurnedWrongFalsely : Prop := sightTurnedRow.holds Try.pinned (OpenSpec.ofChange sightTurnedWrong)

/-- 'limitrophelaw03.SightReached': WHATEVER THE INPUT: true; the input reads as it did. -/
def sightReachedSpec : ChangeSpec := { name := "sightReached", fn := fun _ => fun
  | [d1, d2, d3] => { results := [.lit (.bool true)], args := [d1, d2, d3] }
  | _ => none }
def sightReachedRow : OpenClaim := { program := "ytdlnjnfkbneibaa", sum := "ecd2b987298e60c8fc9cc72de90129b061d5b3b418e328e3823a6b8c54895422", func := "limitrophe/limitrophelaw03.SightReached", spec := "sightReached", unfollowed := true, recurses := true, plainKeys := false, apart := false }
def SightReachedSaid : Prop := sightReachedRow.holds Try.pinned (OpenSpec.ofChange sightReachedSpec)

/-- ITS FALSE NEIGHBOUR: 'it returns false'. Refute it at one input. -/
def sightReachedWrong : ChangeSpec := { name := "sightReached", fn := fun _ => fun
  | [d1, d2, d3] => { results := [.lit (.bool false)], args := [d1, d2, d3] }
  | _ => none }
def SightReachedWrongFalsely : Prop := sightReachedRow.holds Try.pinned (OpenSpec.ofChange sightReachedWrong)

/- THE SECOND FORM. 'bulk': how many values and letters a reading holds, each counted each time it is reached (what is shared counts as often as it is met; a slice's spare places count too). A statement '..UptoSaid' is the law's where the arguments, and the package variables that the reading takes, are together of bulk at most 1048576: NARROWER than '..Said'. Prove '..Said' where nothing that the law and all that it calls make is longer than what came in: it says more and counts as full. Else prove '..UptoSaid'. A law counts once. -/
mutual
def uptoBulk {H : Type} : DataW H → Nat
  | .lit (.string bytes) => bytes.length + 1
  | .lit _ => 1
  | .nil => 1
  | .ptr d => uptoBulk d + 1
  | .slice elems spare => uptoBulkAll elems + uptoBulkAll spare + 1
  | .agg parts => uptoBulkAll parts + 1
  | .iface _ d => uptoBulk d + 1
  | .map entries => uptoBulkEntries entries + 1
  | .held _ => 1
def uptoBulkAll {H : Type} : List (DataW H) → Nat
  | [] => 0
  | d :: r => uptoBulk d + uptoBulkAll r
def uptoBulkEntries {H : Type} : List (Lit × DataW H) → Nat
  | [] => 0
  | x :: r => uptoBulkEntry x + uptoBulkEntries r
def uptoBulkEntry {H : Type} : Lit × DataW H → Nat
  | (.string bytes, d) => bytes.length + uptoBulk d + 1
  | (_, d) => uptoBulk d + 1
 end
def uptoSmall : (H : Type) → List (DataW H) → Bool := fun _ ds => decide (uptoBulkAll ds ≤ 1048576)
def OpenSpec.upto (s : _root_.Go.ChangeSpec) : _root_.Go.OpenSpec := { _root_.Go.OpenSpec.ofChange s with cond := some uptoSmall }

/-- 'limitrophelaw03.SightBounds', WHERE WHAT IT READS IS OF BULK AT MOST 1048576: true; the input reads as it did. -/
def sightBoundsUptoRow : OpenClaim := { program := "ytdlnjnfkbneibaa", sum := "ecd2b987298e60c8fc9cc72de90129b061d5b3b418e328e3823a6b8c54895422", func := "limitrophe/limitrophelaw03.SightBounds", spec := "sightBounds", unfollowed := true, recurses := true, plainKeys := false, apart := false, narrowed := true }
def SightBoundsUptoSaid : Prop := sightBoundsUptoRow.holds Try.pinned (OpenSpec.upto sightBoundsSpec)

/-- 'limitrophelaw03.SightTrue', WHERE WHAT IT READS IS OF BULK AT MOST 1048576: true; the input reads as it did. -/
def sightTrueUptoRow : OpenClaim := { program := "ytdlnjnfkbneibaa", sum := "ecd2b987298e60c8fc9cc72de90129b061d5b3b418e328e3823a6b8c54895422", func := "limitrophe/limitrophelaw03.SightTrue", spec := "sightTrue", unfollowed := true, recurses := true, plainKeys := false, apart := false, narrowed := true }
def SightTrueUptoSaid : Prop := sightTrueUptoRow.holds Try.pinned (OpenSpec.upto sightTrueSpec)

/-- 'limitrophelaw03.SightMoved', WHERE WHAT IT READS IS OF BULK AT MOST 1048576: true; the input reads as it did. -/
def sightMovedUptoRow : OpenClaim := { program := "ytdlnjnfkbneibaa", sum := "ecd2b987298e60c8fc9cc72de90129b061d5b3b418e328e3823a6b8c54895422", func := "limitrophe/limitrophelaw03.SightMoved", spec := "sightMoved", unfollowed := true, recurses := true, plainKeys := false, apart := false, narrowed := true }
def SightMovedUptoSaid : Prop := sightMovedUptoRow.holds Try.pinned (OpenSpec.upto sightMovedSpec)

/-- 'limitrophelaw03.SightMore', WHERE WHAT IT READS IS OF BULK AT MOST 1048576: true; the input reads as it did. -/
def sightMoreUptoRow : OpenClaim := { program := "ytdlnjnfkbneibaa", sum := "ecd2b987298e60c8fc9cc72de90129b061d5b3b418e328e3823a6b8c54895422", func := "limitrophe/limitrophelaw03.SightMore", spec := "sightMore", unfollowed := true, recurses := true, plainKeys := false, apart := false, narrowed := true }
def SightMoreUptoSaid : Prop := sightMoreUptoRow.holds Try.pinned (OpenSpec.upto sightMoreSpec)

/-- 'limitrophelaw03.SightTurned', WHERE WHAT IT READS IS OF BULK AT MOST 1048576: true; the input reads as it did. -/
def sightTurnedUptoRow : OpenClaim := { program := "ytdlnjnfkbneibaa", sum := "ecd2b987298e60c8fc9cc72de90129b061d5b3b418e328e3823a6b8c54895422", func := "limitrophe/limitrophelaw03.SightTurned", spec := "sightTurned", unfollowed := true, recurses := true, plainKeys := false, apart := false, narrowed := true }
def SightTurnedUptoSaid : Prop := sightTurnedUptoRow.holds Try.pinned (OpenSpec.upto sightTurnedSpec)

/-- 'limitrophelaw03.SightReached', WHERE WHAT IT READS IS OF BULK AT MOST 1048576: true; the input reads as it did. -/
def sightReachedUptoRow : OpenClaim := { program := "ytdlnjnfkbneibaa", sum := "ecd2b987298e60c8fc9cc72de90129b061d5b3b418e328e3823a6b8c54895422", func := "limitrophe/limitrophelaw03.SightReached", spec := "sightReached", unfollowed := true, recurses := true, plainKeys := false, apart := false, narrowed := true }
def SightReachedUptoSaid : Prop := sightReachedUptoRow.holds Try.pinned (OpenSpec.upto sightReachedSpec)

end Rows
end Go.Proofs.Ytdlnjnfkbneibaa
