/-
  No cell of these rows narrows 'for every input' (looked for: loops, veiled, ifaces, maps, wideKeys, modest, calm, conditions, laid).
  DERIVED. THE GIVEN ROWS OF THIS SEAT. 4 by the template 'for every input the law returns true; each argument reads behind the call as it read before'; 0 by the template 'total and deterministic' (their statements: YtdlnjnfkbneibaaGreatTotals.lean).
  GIVEN WITH THE SEED: the statements are not yours to turn. If you find one false, say at which input.
  Laid BY PROGRAM, IN A SANDBOX (cutbox-rows.mjs): the forced cells as the released guide's own fill.sh prints them over the translation 4134a9a16481ed61… (all of the seat's roots in one cut). By AI agents, Wed Nov 11 2026. No macro, syntax, notation, axiom, sorry.
-/
import Derived.Test.YtdlnjnfkbneibaaGreatChecked
import GoSem.Claim
import GoSem.ClaimJoined
import GoSem.ClaimMapViews
import Derived.JoinedTies
import Derived.KernelRfl
namespace Go.Proofs.YtdlnjnfkbneibaaGreat
/- THE CELL 'sum', in the pinned program and in every row, IS THE sha256 OF THE DUMP (.gsa) THAT YtdlnjnfkbneibaaGreatProg.lean LOADS. Nothing in Lean hashes anything: it is a label: what it is worth is what the hold of that sum in a sandbox is worth. -/
noncomputable def Tryz.pinned : Pinned := { name := "ytdlnjnfkbneibaagreat", sum := "4134a9a16481ed618c62599849c022f67a176fdb5f5baa66542d57b9809a4d93", checked := Tryz.checked }
namespace Rows
def none {H : Type} : Left H := { results := [], args := [] }

/-- 'limitrophelaw03.SightProofs': WHATEVER THE INPUT: true; the input reads as it did. -/
def sightProofsSpec : ChangeSpec := { name := "sightProofs", fn := fun _ => fun
  | [d1, d2, d3, d4] => { results := [.lit (.bool true)], args := [d1, d2, d3, d4] }
  | _ => none }
def sightProofsRow : OpenClaim := { program := "ytdlnjnfkbneibaagreat", sum := "4134a9a16481ed618c62599849c022f67a176fdb5f5baa66542d57b9809a4d93", func := "limitrophe/limitrophelaw03.SightProofs", spec := "sightProofs", unfollowed := true, recurses := true, plainKeys := false, apart := false }
def SightProofsSaid : Prop := sightProofsRow.holds Tryz.pinned (OpenSpec.ofChange sightProofsSpec)

/-- ITS FALSE NEIGHBOUR: 'it returns false'. Refute it at one input. -/
def sightProofsWrong : ChangeSpec := { name := "sightProofs", fn := fun _ => fun
  | [d1, d2, d3, d4] => { results := [.lit (.bool false)], args := [d1, d2, d3, d4] }
  | _ => none }
def SightProofsWrongFalsely : Prop := sightProofsRow.holds Tryz.pinned (OpenSpec.ofChange sightProofsWrong)

/-- 'limitrophelaw03.SightRegions': WHATEVER THE INPUT: true; the input reads as it did. -/
def sightRegionsSpec : ChangeSpec := { name := "sightRegions", fn := fun _ => fun
  | [d1, d2, d3] => { results := [.lit (.bool true)], args := [d1, d2, d3] }
  | _ => none }
def sightRegionsRow : OpenClaim := { program := "ytdlnjnfkbneibaagreat", sum := "4134a9a16481ed618c62599849c022f67a176fdb5f5baa66542d57b9809a4d93", func := "limitrophe/limitrophelaw03.SightRegions", spec := "sightRegions", unfollowed := true, recurses := true, plainKeys := false, apart := false }
def SightRegionsSaid : Prop := sightRegionsRow.holds Tryz.pinned (OpenSpec.ofChange sightRegionsSpec)

/-- ITS FALSE NEIGHBOUR: 'it returns false'. Refute it at one input. -/
def sightRegionsWrong : ChangeSpec := { name := "sightRegions", fn := fun _ => fun
  | [d1, d2, d3] => { results := [.lit (.bool false)], args := [d1, d2, d3] }
  | _ => none }
def SightRegionsWrongFalsely : Prop := sightRegionsRow.holds Tryz.pinned (OpenSpec.ofChange sightRegionsWrong)

/-- 'limitrophelaw03.SightSmall': WHATEVER THE INPUT: true; the input reads as it did. -/
def sightSmallSpec : ChangeSpec := { name := "sightSmall", fn := fun _ => fun
  | [] => { results := [.lit (.bool true)], args := [] }
  | _ => none }
def sightSmallRow : OpenClaim := { program := "ytdlnjnfkbneibaagreat", sum := "4134a9a16481ed618c62599849c022f67a176fdb5f5baa66542d57b9809a4d93", func := "limitrophe/limitrophelaw03.SightSmall", spec := "sightSmall", unfollowed := true, recurses := true, plainKeys := false, apart := false }
def SightSmallSaid : Prop := sightSmallRow.holds Tryz.pinned (OpenSpec.ofChange sightSmallSpec)

/-- ITS FALSE NEIGHBOUR: 'it returns false'. Refute it at one input. -/
def sightSmallWrong : ChangeSpec := { name := "sightSmall", fn := fun _ => fun
  | [] => { results := [.lit (.bool false)], args := [] }
  | _ => none }
def SightSmallWrongFalsely : Prop := sightSmallRow.holds Tryz.pinned (OpenSpec.ofChange sightSmallWrong)

/-- 'limitrophelaw03.SightRefuted': WHATEVER THE INPUT: true; the input reads as it did. -/
def sightRefutedSpec : ChangeSpec := { name := "sightRefuted", fn := fun _ => fun
  | [d1, d2, d3, d4] => { results := [.lit (.bool true)], args := [d1, d2, d3, d4] }
  | _ => none }
def sightRefutedRow : OpenClaim := { program := "ytdlnjnfkbneibaagreat", sum := "4134a9a16481ed618c62599849c022f67a176fdb5f5baa66542d57b9809a4d93", func := "limitrophe/limitrophelaw03.SightRefuted", spec := "sightRefuted", unfollowed := true, recurses := true, plainKeys := false, apart := false }
def SightRefutedSaid : Prop := sightRefutedRow.holds Tryz.pinned (OpenSpec.ofChange sightRefutedSpec)

/-- ITS FALSE NEIGHBOUR: 'it returns false'. Refute it at one input. -/
def sightRefutedWrong : ChangeSpec := { name := "sightRefuted", fn := fun _ => fun
  | [d1, d2, d3, d4] => { results := [.lit (.bool false)], args := [d1, d2, d3, d4] }
  | _ => none }
def SightRefutedWrongFalsely : Prop := sightRefutedRow.holds Tryz.pinned (OpenSpec.ofChange sightRefutedWrong)

/- THE SECOND FORM. 'bulk': how many values and letters a reading holds, each counted each time it is reached (what is shared counts as often as it is met; a slice's spare places count too). A statement '..UptoSaid' is the law's where the arguments, and the package variables that the reading takes, are together of bulk at most 1048576: NARROWER than '..Said'. Prove '..Said' where nothing that the law and all that it calls make is longer than what came in: it says more and counts as full. Else prove '..UptoSaid'. A law counts once. -/
mutual
def uptoBulk {H : Type} : DataW H → Nat
  | .lit (.string bytes) => bytes.length + 1
  | .lit _ => 1
  | .nil => 1
  | .ptr d => uptoBulk d + 1
  | .slice elems spare => uptoBulkAll elems + uptoBulkAll spare + 1
  | .agg parts => uptoBulkAll parts + 1
  | .iface _ d => uptoBulk d + 1
  | .map entries => uptoBulkEntries entries + 1
  | .held _ => 1
def uptoBulkAll {H : Type} : List (DataW H) → Nat
  | [] => 0
  | d :: r => uptoBulk d + uptoBulkAll r
def uptoBulkEntries {H : Type} : List (Lit × DataW H) → Nat
  | [] => 0
  | x :: r => uptoBulkEntry x + uptoBulkEntries r
def uptoBulkEntry {H : Type} : Lit × DataW H → Nat
  | (.string bytes, d) => bytes.length + uptoBulk d + 1
  | (_, d) => uptoBulk d + 1
 end
def uptoSmall : (H : Type) → List (DataW H) → Bool := fun _ ds => decide (uptoBulkAll ds ≤ 1048576)
def OpenSpec.upto (s : _root_.Go.ChangeSpec) : _root_.Go.OpenSpec := { _root_.Go.OpenSpec.ofChange s with cond := some uptoSmall }

/-- 'limitrophelaw03.SightProofs', WHERE WHAT IT READS IS OF BULK AT MOST 1048576: true; the input reads as it did. -/
def sightProofsUptoRow : OpenClaim := { program := "ytdlnjnfkbneibaagreat", sum := "4134a9a16481ed618c62599849c022f67a176fdb5f5baa66542d57b9809a4d93", func := "limitrophe/limitrophelaw03.SightProofs", spec := "sightProofs", unfollowed := true, recurses := true, plainKeys := false, apart := false, narrowed := true }
def SightProofsUptoSaid : Prop := sightProofsUptoRow.holds Tryz.pinned (OpenSpec.upto sightProofsSpec)

/-- 'limitrophelaw03.SightRegions', WHERE WHAT IT READS IS OF BULK AT MOST 1048576: true; the input reads as it did. -/
def sightRegionsUptoRow : OpenClaim := { program := "ytdlnjnfkbneibaagreat", sum := "4134a9a16481ed618c62599849c022f67a176fdb5f5baa66542d57b9809a4d93", func := "limitrophe/limitrophelaw03.SightRegions", spec := "sightRegions", unfollowed := true, recurses := true, plainKeys := false, apart := false, narrowed := true }
def SightRegionsUptoSaid : Prop := sightRegionsUptoRow.holds Tryz.pinned (OpenSpec.upto sightRegionsSpec)

/-- 'limitrophelaw03.SightSmall', WHERE WHAT IT READS IS OF BULK AT MOST 1048576: true; the input reads as it did. -/
def sightSmallUptoRow : OpenClaim := { program := "ytdlnjnfkbneibaagreat", sum := "4134a9a16481ed618c62599849c022f67a176fdb5f5baa66542d57b9809a4d93", func := "limitrophe/limitrophelaw03.SightSmall", spec := "sightSmall", unfollowed := true, recurses := true, plainKeys := false, apart := false, narrowed := true }
def SightSmallUptoSaid : Prop := sightSmallUptoRow.holds Tryz.pinned (OpenSpec.upto sightSmallSpec)

/-- 'limitrophelaw03.SightRefuted', WHERE WHAT IT READS IS OF BULK AT MOST 1048576: true; the input reads as it did. -/
def sightRefutedUptoRow : OpenClaim := { program := "ytdlnjnfkbneibaagreat", sum := "4134a9a16481ed618c62599849c022f67a176fdb5f5baa66542d57b9809a4d93", func := "limitrophe/limitrophelaw03.SightRefuted", spec := "sightRefuted", unfollowed := true, recurses := true, plainKeys := false, apart := false, narrowed := true }
def SightRefutedUptoSaid : Prop := sightRefutedUptoRow.holds Tryz.pinned (OpenSpec.upto sightRefutedSpec)

end Rows
end Go.Proofs.YtdlnjnfkbneibaaGreat
