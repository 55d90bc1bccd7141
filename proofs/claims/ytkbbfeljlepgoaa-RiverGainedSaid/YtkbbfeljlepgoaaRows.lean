/-
  No cell of these rows narrows 'for every input' (looked for: loops, veiled, ifaces, maps, wideKeys, modest, calm, conditions, laid).
  DERIVED. THE GIVEN ROWS OF THIS SEAT. 8 by the template 'for every input the law returns true; each argument reads behind the call as it read before'; 0 by the template 'total and deterministic' (their statements: YtkbbfeljlepgoaaTotals.lean).
  GIVEN WITH THE SEED: the statements are not yours to turn. If you find one false, say at which input.
  Laid BY PROGRAM, IN A SANDBOX (cutbox-rows.mjs): the forced cells as the released guide's own fill.sh prints them over the translation 37da038a6d7b59f7… (all of the seat's roots in one cut). By AI agents, Wed Nov 11 2026. No macro, syntax, notation, axiom, sorry.
-/
import Derived.Test.YtkbbfeljlepgoaaChecked
import GoSem.Claim
import GoSem.ClaimJoined
import GoSem.ClaimMapViews
import Derived.JoinedTies
import Derived.KernelRfl
namespace Go.Proofs.Ytkbbfeljlepgoaa
/- THE CELL 'sum', in the pinned program and in every row, IS THE sha256 OF THE DUMP (.gsa) THAT YtkbbfeljlepgoaaProg.lean LOADS. Nothing in Lean hashes anything: it is a label: what it is worth is what the hold of that sum in a sandbox is worth. -/
noncomputable def Try.pinned : Pinned := { name := "ytkbbfeljlepgoaa", sum := "37da038a6d7b59f7c7ea1a31156e69a9840da5b283694bebba3ea37b9148eb4e", checked := Try.checked }
namespace Rows
def none {H : Type} : Left H := { results := [], args := [] }

/-- 'limitrophelaw05.RiverOwners': WHATEVER THE INPUT: true; the input reads as it did. -/
def riverOwnersSpec : ChangeSpec := { name := "riverOwners", fn := fun _ => fun
  | [d] => { results := [.lit (.bool true)], args := [d] }
  | _ => none }
def riverOwnersRow : OpenClaim := { program := "ytkbbfeljlepgoaa", sum := "37da038a6d7b59f7c7ea1a31156e69a9840da5b283694bebba3ea37b9148eb4e", func := "limitrophe/limitrophelaw05.RiverOwners", spec := "riverOwners", inPlace := ["internal/bytealg.IndexByteString"], unfollowed := true, recurses := true, apart := false }
def RiverOwnersSaid : Prop := riverOwnersRow.holds Try.pinned (OpenSpec.ofChange riverOwnersSpec)

/-- ITS FALSE NEIGHBOUR: 'it returns false'. Refute it at one input. -/
def riverOwnersWrong : ChangeSpec := { name := "riverOwners", fn := fun _ => fun
  | [d] => { results := [.lit (.bool false)], args := [d] }
  | _ => none }
def RiverOwnersWrongFalsely : Prop := riverOwnersRow.holds Try.pinned (OpenSpec.ofChange riverOwnersWrong)

/-- 'limitrophelaw05.RiverGained': WHATEVER THE INPUT: true; the input reads as it did. -/
def riverGainedSpec : ChangeSpec := { name := "riverGained", fn := fun _ => fun
  | [d1, d2, d3] => { results := [.lit (.bool true)], args := [d1, d2, d3] }
  | _ => none }
def riverGainedRow : OpenClaim := { program := "ytkbbfeljlepgoaa", sum := "37da038a6d7b59f7c7ea1a31156e69a9840da5b283694bebba3ea37b9148eb4e", func := "limitrophe/limitrophelaw05.RiverGained", spec := "riverGained", inPlace := ["internal/bytealg.IndexByteString"], unfollowed := true, recurses := true, apart := false }
def RiverGainedSaid : Prop := riverGainedRow.holds Try.pinned (OpenSpec.ofChange riverGainedSpec)

/-- ITS FALSE NEIGHBOUR: 'it returns false'. Refute it at one input. -/
def riverGainedWrong : ChangeSpec := { name := "riverGained", fn := fun _ => fun
  | [d1, d2, d3] => { results := [.lit (.bool false)], args := [d1, d2, d3] }
  | _ => none }
def RiverGainedWrongFalsely : Prop := riverGainedRow.holds Try.pinned (OpenSpec.ofChange riverGainedWrong)

/-- 'limitrophelaw05.RiverCounted': WHATEVER THE INPUT: true; the input reads as it did. -/
def riverCountedSpec : ChangeSpec := { name := "riverCounted", fn := fun _ => fun
  | [d] => { results := [.lit (.bool true)], args := [d] }
  | _ => none }
def riverCountedRow : OpenClaim := { program := "ytkbbfeljlepgoaa", sum := "37da038a6d7b59f7c7ea1a31156e69a9840da5b283694bebba3ea37b9148eb4e", func := "limitrophe/limitrophelaw05.RiverCounted", spec := "riverCounted", inPlace := ["internal/bytealg.IndexByteString"], unfollowed := true, recurses := true, apart := false }
def RiverCountedSaid : Prop := riverCountedRow.holds Try.pinned (OpenSpec.ofChange riverCountedSpec)

/-- ITS FALSE NEIGHBOUR: 'it returns false'. Refute it at one input. -/
def riverCountedWrong : ChangeSpec := { name := "riverCounted", fn := fun _ => fun
  | [d] => { results := [.lit (.bool false)], args := [d] }
  | _ => none }
def RiverCountedWrongFalsely : Prop := riverCountedRow.holds Try.pinned (OpenSpec.ofChange riverCountedWrong)

/-- 'limitrophelaw05.RiverMirrored': WHATEVER THE INPUT: true; the input reads as it did. -/
def riverMirroredSpec : ChangeSpec := { name := "riverMirrored", fn := fun _ => fun
  | [d] => { results := [.lit (.bool true)], args := [d] }
  | _ => none }
def riverMirroredRow : OpenClaim := { program := "ytkbbfeljlepgoaa", sum := "37da038a6d7b59f7c7ea1a31156e69a9840da5b283694bebba3ea37b9148eb4e", func := "limitrophe/limitrophelaw05.RiverMirrored", spec := "riverMirrored", inPlace := ["internal/bytealg.IndexByteString"], unfollowed := true, recurses := true, apart := false }
def RiverMirroredSaid : Prop := riverMirroredRow.holds Try.pinned (OpenSpec.ofChange riverMirroredSpec)

/-- ITS FALSE NEIGHBOUR: 'it returns false'. Refute it at one input. -/
def riverMirroredWrong : ChangeSpec := { name := "riverMirrored", fn := fun _ => fun
  | [d] => { results := [.lit (.bool false)], args := [d] }
  | _ => none }
def RiverMirroredWrongFalsely : Prop := riverMirroredRow.holds Try.pinned (OpenSpec.ofChange riverMirroredWrong)

/-- 'limitrophelaw05.RiverGrows': WHATEVER THE INPUT: true; the input reads as it did. -/
def riverGrowsSpec : ChangeSpec := { name := "riverGrows", fn := fun _ => fun
  | [d1, d2] => { results := [.lit (.bool true)], args := [d1, d2] }
  | _ => none }
def riverGrowsRow : OpenClaim := { program := "ytkbbfeljlepgoaa", sum := "37da038a6d7b59f7c7ea1a31156e69a9840da5b283694bebba3ea37b9148eb4e", func := "limitrophe/limitrophelaw05.RiverGrows", spec := "riverGrows", inPlace := ["internal/bytealg.IndexByteString"], unfollowed := true, recurses := true, apart := false }
def RiverGrowsSaid : Prop := riverGrowsRow.holds Try.pinned (OpenSpec.ofChange riverGrowsSpec)

/-- ITS FALSE NEIGHBOUR: 'it returns false'. Refute it at one input. -/
def riverGrowsWrong : ChangeSpec := { name := "riverGrows", fn := fun _ => fun
  | [d1, d2] => { results := [.lit (.bool false)], args := [d1, d2] }
  | _ => none }
def RiverGrowsWrongFalsely : Prop := riverGrowsRow.holds Try.pinned (OpenSpec.ofChange riverGrowsWrong)

/-- 'limitrophelaw05.RiverFars': WHATEVER THE INPUT: true; the input reads as it did. -/
def riverFarsSpec : ChangeSpec := { name := "riverFars", fn := fun _ => fun
  | [d1, d2, d3, d4] => { results := [.lit (.bool true)], args := [d1, d2, d3, d4] }
  | _ => none }
def riverFarsRow : OpenClaim := { program := "ytkbbfeljlepgoaa", sum := "37da038a6d7b59f7c7ea1a31156e69a9840da5b283694bebba3ea37b9148eb4e", func := "limitrophe/limitrophelaw05.RiverFars", spec := "riverFars", inPlace := ["internal/bytealg.IndexByteString"], unfollowed := true, recurses := true, apart := false }
def RiverFarsSaid : Prop := riverFarsRow.holds Try.pinned (OpenSpec.ofChange riverFarsSpec)

/-- ITS FALSE NEIGHBOUR: 'it returns false'. Refute it at one input. -/
def riverFarsWrong : ChangeSpec := { name := "riverFars", fn := fun _ => fun
  | [d1, d2, d3, d4] => { results := [.lit (.bool false)], args := [d1, d2, d3, d4] }
  | _ => none }
def RiverFarsWrongFalsely : Prop := riverFarsRow.holds Try.pinned (OpenSpec.ofChange riverFarsWrong)

/-- 'limitrophelaw05.RiverMiddle': WHATEVER THE INPUT: true; the input reads as it did. -/
def riverMiddleSpec : ChangeSpec := { name := "riverMiddle", fn := fun _ => fun
  | [d] => { results := [.lit (.bool true)], args := [d] }
  | _ => none }
def riverMiddleRow : OpenClaim := { program := "ytkbbfeljlepgoaa", sum := "37da038a6d7b59f7c7ea1a31156e69a9840da5b283694bebba3ea37b9148eb4e", func := "limitrophe/limitrophelaw05.RiverMiddle", spec := "riverMiddle", inPlace := ["internal/bytealg.IndexByteString"], unfollowed := true, recurses := true, apart := false }
def RiverMiddleSaid : Prop := riverMiddleRow.holds Try.pinned (OpenSpec.ofChange riverMiddleSpec)

/-- ITS FALSE NEIGHBOUR: 'it returns false'. Refute it at one input. -/
def riverMiddleWrong : ChangeSpec := { name := "riverMiddle", fn := fun _ => fun
  | [d] => { results := [.lit (.bool false)], args := [d] }
  | _ => none }
def RiverMiddleWrongFalsely : Prop := riverMiddleRow.holds Try.pinned (OpenSpec.ofChange riverMiddleWrong)

/-- 'limitrophelaw05.RiverProved': WHATEVER THE INPUT: true; the input reads as it did. -/
def riverProvedSpec : ChangeSpec := { name := "riverProved", fn := fun _ => fun
  | [d1, d2, d3] => { results := [.lit (.bool true)], args := [d1, d2, d3] }
  | _ => none }
def riverProvedRow : OpenClaim := { program := "ytkbbfeljlepgoaa", sum := "37da038a6d7b59f7c7ea1a31156e69a9840da5b283694bebba3ea37b9148eb4e", func := "limitrophe/limitrophelaw05.RiverProved", spec := "riverProved", inPlace := ["internal/bytealg.IndexByteString"], unfollowed := true, recurses := true, apart := false }
def RiverProvedSaid : Prop := riverProvedRow.holds Try.pinned (OpenSpec.ofChange riverProvedSpec)

/-- ITS FALSE NEIGHBOUR: 'it returns false'. Refute it at one input. -/
def riverProvedWrong : ChangeSpec := { name := "riverProved", fn := fun _ => fun
  | [d1, d2, d3] => { results := [.lit (.bool false)], args := [d1, d2, d3] }
  | _ => none }
def RiverProvedWrongFalsely : Prop := riverProvedRow.holds Try.pinned (OpenSpec.ofChange riverProvedWrong)

/- THE SECOND FORM. 'bulk': how many values and letters a reading holds, each counted each time it is reached (what is shared counts as often as it is met; a slice's spare places count too). A statement '..UptoSaid' is the law's where the arguments, and the package variables that the reading takes, are together of bulk at most 1048576: NARROWER than '..Said'. Prove '..Said' where nothing that the law and all that it calls make is longer than what came in: it says more and counts as full. Else prove '..UptoSaid'. A law counts once. -/
mutual
def uptoBulk {H : Type} : DataW H → Nat
  | .lit (.string bytes) => bytes.length + 1
  | .lit _ => 1
  | .nil => 1
  | .ptr d => uptoBulk d + 1
  | .slice elems spare => uptoBulkAll elems + uptoBulkAll spare + 1
  | .agg parts => uptoBulkAll parts + 1
  | .iface _ d => uptoBulk d + 1
  | .map entries => uptoBulkEntries entries + 1
  | .held _ => 1
def uptoBulkAll {H : Type} : List (DataW H) → Nat
  | [] => 0
  | d :: r => uptoBulk d + uptoBulkAll r
def uptoBulkEntries {H : Type} : List (Lit × DataW H) → Nat
  | [] => 0
  | x :: r => uptoBulkEntry x + uptoBulkEntries r
def uptoBulkEntry {H : Type} : Lit × DataW H → Nat
  | (.string bytes, d) => bytes.length + uptoBulk d + 1
  | (_, d) => uptoBulk d + 1
 end
def uptoSmall : (H : Type) → List (DataW H) → Bool := fun _ ds => decide (uptoBulkAll ds ≤ 1048576)
def OpenSpec.upto (s : _root_.Go.ChangeSpec) : _root_.Go.OpenSpec := { _root_.Go.OpenSpec.ofChange s with cond := some uptoSmall }

/-- 'limitrophelaw05.RiverOwners', WHERE WHAT IT READS IS OF BULK AT MOST 1048576: true; the input reads as it did. -/
def riverOwnersUptoRow : OpenClaim := { program := "ytkbbfeljlepgoaa", sum := "37da038a6d7b59f7c7ea1a31156e69a9840da5b283694bebba3ea37b9148eb4e", func := "limitrophe/limitrophelaw05.RiverOwners", spec := "riverOwners", inPlace := ["internal/bytealg.IndexByteString"], unfollowed := true, recurses := true, apart := false, narrowed := true }
def RiverOwnersUptoSaid : Prop := riverOwnersUptoRow.holds Try.pinned (OpenSpec.upto riverOwnersSpec)

/-- 'limitrophelaw05.RiverGained', WHERE WHAT IT READS IS OF BULK AT MOST 1048576: true; the input reads as it did. -/
def riverGainedUptoRow : OpenClaim := { program := "ytkbbfeljlepgoaa", sum := "37da038a6d7b59f7c7ea1a31156e69a9840da5b283694bebba3ea37b9148eb4e", func := "limitrophe/limitrophelaw05.RiverGained", spec := "riverGained", inPlace := ["internal/bytealg.IndexByteString"], unfollowed := true, recurses := true, apart := false, narrowed := true }
def RiverGainedUptoSaid : Prop := riverGainedUptoRow.holds Try.pinned (OpenSpec.upto riverGainedSpec)

/-- 'limitrophelaw05.RiverCounted', WHERE WHAT IT READS IS OF BULK AT MOST 1048576: true; the input reads as it did. -/
def riverCountedUptoRow : OpenClaim := { program := "ytkbbfeljlepgoaa", sum := "37da038a6d7b59f7c7ea1a31156e69a9840da5b283694bebba3ea37b9148eb4e", func := "limitrophe/limitrophelaw05.RiverCounted", spec := "riverCounted", inPlace := ["internal/bytealg.IndexByteString"], unfollowed := true, recurses := true, apart := false, narrowed := true }
def RiverCountedUptoSaid : Prop := riverCountedUptoRow.holds Try.pinned (OpenSpec.upto riverCountedSpec)

/-- 'limitrophelaw05.RiverMirrored', WHERE WHAT IT READS IS OF BULK AT MOST 1048576: true; the input reads as it did. -/
def riverMirroredUptoRow : OpenClaim := { program := "ytkbbfeljlepgoaa", sum := "37da038a6d7b59f7c7ea1a31156e69a9840da5b283694bebba3ea37b9148eb4e", func := "limitrophe/limitrophelaw05.RiverMirrored", spec := "riverMirrored", inPlace := ["internal/bytealg.IndexByteString"], unfollowed := true, recurses := true, apart := false, narrowed := true }
def RiverMirroredUptoSaid : Prop := riverMirroredUptoRow.holds Try.pinned (OpenSpec.upto riverMirroredSpec)

/-- 'limitrophelaw05.RiverGrows', WHERE WHAT IT READS IS OF BULK AT MOST 1048576: true; the input reads as it did. -/
def riverGrowsUptoRow : OpenClaim := { program := "ytkbbfeljlepgoaa", sum := "37da038a6d7b59f7c7ea1a31156e69a9840da5b283694bebba3ea37b9148eb4e", func := "limitrophe/limitrophelaw05.RiverGrows", spec := "riverGrows", inPlace := ["internal/bytealg.IndexByteString"], unfollowed := true, recurses := true, apart := false, narrowed := true }
def RiverGrowsUptoSaid : Prop := riverGrowsUptoRow.holds Try.pinned (OpenSpec.upto riverGrowsSpec)

/-- 'limitrophelaw05.RiverFars', WHERE WHAT IT READS IS OF BULK AT MOST 1048576: true; the input reads as it did. -/
def riverFarsUptoRow : OpenClaim := { program := "ytkbbfeljlepgoaa", sum := "37da038a6d7b59f7c7ea1a31156e69a9840da5b283694bebba3ea37b9148eb4e", func := "limitrophe/limitrophelaw05.RiverFars", spec := "riverFars", inPlace := ["internal/bytealg.IndexByteString"], unfollowed := true, recurses := true, apart := false, narrowed := true }
def RiverFarsUptoSaid : Prop := riverFarsUptoRow.holds Try.pinned (OpenSpec.upto riverFarsSpec)

/-- 'limitrophelaw05.RiverMiddle', WHERE WHAT IT READS IS OF BULK AT MOST 1048576: true; the input reads as it did. -/
def riverMiddleUptoRow : OpenClaim := { program := "ytkbbfeljlepgoaa", sum := "37da038a6d7b59f7c7ea1a31156e69a9840da5b283694bebba3ea37b9148eb4e", func := "limitrophe/limitrophelaw05.RiverMiddle", spec := "riverMiddle", inPlace := ["internal/bytealg.IndexByteString"], unfollowed := true, recurses := true, apart := false, narrowed := true }
def RiverMiddleUptoSaid : Prop := riverMiddleUptoRow.holds Try.pinned (OpenSpec.upto riverMiddleSpec)

/-- 'limitrophelaw05.RiverProved', WHERE WHAT IT READS IS OF BULK AT MOST 1048576: true; the input reads as it did. -/
def riverProvedUptoRow : OpenClaim := { program := "ytkbbfeljlepgoaa", sum := "37da038a6d7b59f7c7ea1a31156e69a9840da5b283694bebba3ea37b9148eb4e", func := "limitrophe/limitrophelaw05.RiverProved", spec := "riverProved", inPlace := ["internal/bytealg.IndexByteString"], unfollowed := true, recurses := true, apart := false, narrowed := true }
def RiverProvedUptoSaid : Prop := riverProvedUptoRow.holds Try.pinned (OpenSpec.upto riverProvedSpec)

end Rows
end Go.Proofs.Ytkbbfeljlepgoaa
