/-
  No cell of these rows narrows 'for every input' (looked for: loops, veiled, ifaces, maps, wideKeys, modest, calm, conditions, laid).
  DERIVED. THE GIVEN ROWS OF THIS SEAT. 9 by the template 'for every input the law returns true; each argument reads behind the call as it read before'; 0 by the template 'total and deterministic' (their statements: YtolnajnlcdacmaaTotals.lean).
  GIVEN WITH THE SEED: the statements are not yours to turn. If you find one false, say at which input.
  Laid BY PROGRAM, IN A SANDBOX (cutbox-rows.mjs): the forced cells as the released guide's own fill.sh prints them over the translation 68af2e2b3a5a53c8… (all of the seat's roots in one cut). By AI agents, Wed Nov 11 2026. No macro, syntax, notation, axiom, sorry.
-/
import Derived.Test.YtolnajnlcdacmaaChecked
import GoSem.Claim
import GoSem.ClaimJoined
import GoSem.ClaimMapViews
import Derived.JoinedTies
import Derived.KernelRfl
namespace Go.Proofs.Ytolnajnlcdacmaa
/- THE CELL 'sum', in the pinned program and in every row, IS THE sha256 OF THE DUMP (.gsa) THAT YtolnajnlcdacmaaProg.lean LOADS. Nothing in Lean hashes anything: it is a label: what it is worth is what the hold of that sum in a sandbox is worth. -/
noncomputable def Try.pinned : Pinned := { name := "ytolnajnlcdacmaa", sum := "68af2e2b3a5a53c8e95b6e48b4b8db72b5a8c4513b982a94ddc426a84468c602", checked := Try.checked }
namespace Rows
def none {H : Type} : Left H := { results := [], args := [] }

/-- 'limitrophelaw11.SilenceOwners': WHATEVER THE INPUT: true; the input reads as it did. -/
def silenceOwnersSpec : ChangeSpec := { name := "silenceOwners", fn := fun _ => fun
  | [d1, d2] => { results := [.lit (.bool true)], args := [d1, d2] }
  | _ => none }
def silenceOwnersRow : OpenClaim := { program := "ytolnajnlcdacmaa", sum := "68af2e2b3a5a53c8e95b6e48b4b8db72b5a8c4513b982a94ddc426a84468c602", func := "limitrophe/limitrophelaw11.SilenceOwners", spec := "silenceOwners", unfollowed := true, recurses := true, plainKeys := false, apart := false }
def SilenceOwnersSaid : Prop := silenceOwnersRow.holds Try.pinned (OpenSpec.ofChange silenceOwnersSpec)

/-- ITS FALSE NEIGHBOUR: 'it returns false'. Refute it at one input. -/
def silenceOwnersWrong : ChangeSpec := { name := "silenceOwners", fn := fun _ => fun
  | [d1, d2] => { results := [.lit (.bool false)], args := [d1, d2] }
  | _ => none }
def SilenceOwnersWrongFalsely : Prop := silenceOwnersRow.holds Try.pinned (OpenSpec.ofChange silenceOwnersWrong)

/-- 'limitrophelaw11.SilenceTurned': WHATEVER THE INPUT: true; the input reads as it did. -/
def silenceTurnedSpec : ChangeSpec := { name := "silenceTurned", fn := fun _ => fun
  | [d1, d2, d3] => { results := [.lit (.bool true)], args := [d1, d2, d3] }
  | _ => none }
def silenceTurnedRow : OpenClaim := { program := "ytolnajnlcdacmaa", sum := "68af2e2b3a5a53c8e95b6e48b4b8db72b5a8c4513b982a94ddc426a84468c602", func := "limitrophe/limitrophelaw11.SilenceTurned", spec := "silenceTurned", unfollowed := true, recurses := true, plainKeys := false, apart := false }
def SilenceTurnedSaid : Prop := silenceTurnedRow.holds Try.pinned (OpenSpec.ofChange silenceTurnedSpec)

/-- ITS FALSE NEIGHBOUR: 'it returns false'. Refute it at one input. -/
def silenceTurnedWrong : ChangeSpec := { name := "silenceTurned", fn := fun _ => fun
  | [d1, d2, d3] => { results := [.lit (.bool false)], args := [d1, d2, d3] }
  | _ => none }
def SilenceTurnedWrongFalsely : Prop := silenceTurnedRow.holds Try.pinned (OpenSpec.ofChange silenceTurnedWrong)

/-- 'limitrophelaw11.SilenceChained': WHATEVER THE INPUT: true; the input reads as it did. -/
def silenceChainedSpec : ChangeSpec := { name := "silenceChained", fn := fun _ => fun
  | [d1, d2] => { results := [.lit (.bool true)], args := [d1, d2] }
  | _ => none }
def silenceChainedRow : OpenClaim := { program := "ytolnajnlcdacmaa", sum := "68af2e2b3a5a53c8e95b6e48b4b8db72b5a8c4513b982a94ddc426a84468c602", func := "limitrophe/limitrophelaw11.SilenceChained", spec := "silenceChained", unfollowed := true, recurses := true, plainKeys := false, apart := false }
def SilenceChainedSaid : Prop := silenceChainedRow.holds Try.pinned (OpenSpec.ofChange silenceChainedSpec)

/-- ITS FALSE NEIGHBOUR: 'it returns false'. Refute it at one input. -/
def silenceChainedWrong : ChangeSpec := { name := "silenceChained", fn := fun _ => fun
  | [d1, d2] => { results := [.lit (.bool false)], args := [d1, d2] }
  | _ => none }
def SilenceChainedWrongFalsely : Prop := silenceChainedRow.holds Try.pinned (OpenSpec.ofChange silenceChainedWrong)

/-- 'limitrophelaw11.SilenceRights': WHATEVER THE INPUT: true; the input reads as it did. -/
def silenceRightsSpec : ChangeSpec := { name := "silenceRights", fn := fun _ => fun
  | [d1, d2] => { results := [.lit (.bool true)], args := [d1, d2] }
  | _ => none }
def silenceRightsRow : OpenClaim := { program := "ytolnajnlcdacmaa", sum := "68af2e2b3a5a53c8e95b6e48b4b8db72b5a8c4513b982a94ddc426a84468c602", func := "limitrophe/limitrophelaw11.SilenceRights", spec := "silenceRights", unfollowed := true, recurses := true, plainKeys := false, apart := false }
def SilenceRightsSaid : Prop := silenceRightsRow.holds Try.pinned (OpenSpec.ofChange silenceRightsSpec)

/-- ITS FALSE NEIGHBOUR: 'it returns false'. Refute it at one input. -/
def silenceRightsWrong : ChangeSpec := { name := "silenceRights", fn := fun _ => fun
  | [d1, d2] => { results := [.lit (.bool false)], args := [d1, d2] }
  | _ => none }
def SilenceRightsWrongFalsely : Prop := silenceRightsRow.holds Try.pinned (OpenSpec.ofChange silenceRightsWrong)

/-- 'limitrophelaw11.SilenceFollows': WHATEVER THE INPUT: true; the input reads as it did. -/
def silenceFollowsSpec : ChangeSpec := { name := "silenceFollows", fn := fun _ => fun
  | [d1, d2] => { results := [.lit (.bool true)], args := [d1, d2] }
  | _ => none }
def silenceFollowsRow : OpenClaim := { program := "ytolnajnlcdacmaa", sum := "68af2e2b3a5a53c8e95b6e48b4b8db72b5a8c4513b982a94ddc426a84468c602", func := "limitrophe/limitrophelaw11.SilenceFollows", spec := "silenceFollows", unfollowed := true, recurses := true, plainKeys := false, apart := false }
def SilenceFollowsSaid : Prop := silenceFollowsRow.holds Try.pinned (OpenSpec.ofChange silenceFollowsSpec)

/-- ITS FALSE NEIGHBOUR: 'it returns false'. Refute it at one input. -/
def silenceFollowsWrong : ChangeSpec := { name := "silenceFollows", fn := fun _ => fun
  | [d1, d2] => { results := [.lit (.bool false)], args := [d1, d2] }
  | _ => none }
def SilenceFollowsWrongFalsely : Prop := silenceFollowsRow.holds Try.pinned (OpenSpec.ofChange silenceFollowsWrong)

/-- 'limitrophelaw11.SilenceMore': WHATEVER THE INPUT: true; the input reads as it did. -/
def silenceMoreSpec : ChangeSpec := { name := "silenceMore", fn := fun _ => fun
  | [d1, d2, d3, d4] => { results := [.lit (.bool true)], args := [d1, d2, d3, d4] }
  | _ => none }
def silenceMoreRow : OpenClaim := { program := "ytolnajnlcdacmaa", sum := "68af2e2b3a5a53c8e95b6e48b4b8db72b5a8c4513b982a94ddc426a84468c602", func := "limitrophe/limitrophelaw11.SilenceMore", spec := "silenceMore", unfollowed := true, recurses := true, plainKeys := false, apart := false }
def SilenceMoreSaid : Prop := silenceMoreRow.holds Try.pinned (OpenSpec.ofChange silenceMoreSpec)

/-- ITS FALSE NEIGHBOUR: 'it returns false'. Refute it at one input. -/
def silenceMoreWrong : ChangeSpec := { name := "silenceMore", fn := fun _ => fun
  | [d1, d2, d3, d4] => { results := [.lit (.bool false)], args := [d1, d2, d3, d4] }
  | _ => none }
def SilenceMoreWrongFalsely : Prop := silenceMoreRow.holds Try.pinned (OpenSpec.ofChange silenceMoreWrong)

/-- 'limitrophelaw11.SilenceShown': WHATEVER THE INPUT: true; the input reads as it did. -/
def silenceShownSpec : ChangeSpec := { name := "silenceShown", fn := fun _ => fun
  | [d1, d2, d3, d4, d5] => { results := [.lit (.bool true)], args := [d1, d2, d3, d4, d5] }
  | _ => none }
def silenceShownRow : OpenClaim := { program := "ytolnajnlcdacmaa", sum := "68af2e2b3a5a53c8e95b6e48b4b8db72b5a8c4513b982a94ddc426a84468c602", func := "limitrophe/limitrophelaw11.SilenceShown", spec := "silenceShown", unfollowed := true, recurses := true, plainKeys := false, apart := false }
def SilenceShownSaid : Prop := silenceShownRow.holds Try.pinned (OpenSpec.ofChange silenceShownSpec)

/-- ITS FALSE NEIGHBOUR: 'it returns false'. Refute it at one input. -/
def silenceShownWrong : ChangeSpec := { name := "silenceShown", fn := fun _ => fun
  | [d1, d2, d3, d4, d5] => { results := [.lit (.bool false)], args := [d1, d2, d3, d4, d5] }
  | _ => none }
def SilenceShownWrongFalsely : Prop := silenceShownRow.holds Try.pinned (OpenSpec.ofChange silenceShownWrong)

/-- 'limitrophelaw11.SilenceProved': WHATEVER THE INPUT: true; the input reads as it did. -/
def silenceProvedSpec : ChangeSpec := { name := "silenceProved", fn := fun _ => fun
  | [d1, d2] => { results := [.lit (.bool true)], args := [d1, d2] }
  | _ => none }
def silenceProvedRow : OpenClaim := { program := "ytolnajnlcdacmaa", sum := "68af2e2b3a5a53c8e95b6e48b4b8db72b5a8c4513b982a94ddc426a84468c602", func := "limitrophe/limitrophelaw11.SilenceProved", spec := "silenceProved", unfollowed := true, recurses := true, plainKeys := false, apart := false }
def SilenceProvedSaid : Prop := silenceProvedRow.holds Try.pinned (OpenSpec.ofChange silenceProvedSpec)

/-- ITS FALSE NEIGHBOUR: 'it returns false'. Refute it at one input. -/
def silenceProvedWrong : ChangeSpec := { name := "silenceProved", fn := fun _ => fun
  | [d1, d2] => { results := [.lit (.bool false)], args := [d1, d2] }
  | _ => none }
def SilenceProvedWrongFalsely : Prop := silenceProvedRow.holds Try.pinned (OpenSpec.ofChange silenceProvedWrong)

/-- 'limitrophelaw11.SilenceSmall': WHATEVER THE INPUT: true; the input reads as it did. -/
def silenceSmallSpec : ChangeSpec := { name := "silenceSmall", fn := fun _ => fun
  | [] => { results := [.lit (.bool true)], args := [] }
  | _ => none }
def silenceSmallRow : OpenClaim := { program := "ytolnajnlcdacmaa", sum := "68af2e2b3a5a53c8e95b6e48b4b8db72b5a8c4513b982a94ddc426a84468c602", func := "limitrophe/limitrophelaw11.SilenceSmall", spec := "silenceSmall", unfollowed := true, recurses := true, plainKeys := false, apart := false }
def SilenceSmallSaid : Prop := silenceSmallRow.holds Try.pinned (OpenSpec.ofChange silenceSmallSpec)

/-- ITS FALSE NEIGHBOUR: 'it returns false'. Refute it at one input. -/
def silenceSmallWrong : ChangeSpec := { name := "silenceSmall", fn := fun _ => fun
  | [] => { results := [.lit (.bool false)], args := [] }
  | _ => none }
def SilenceSmallWrongFalsely : Prop := silenceSmallRow.holds Try.pinned (OpenSpec.ofChange silenceSmallWrong)

/- THE SECOND FORM. 'bulk': how many values and letters a reading holds, each counted each time it is reached (what is shared counts as often as it is met; a slice's spare places count too). A statement '..UptoSaid' is the law's where the arguments, and the package variables that the reading takes, are together of bulk at most 1048576: NARROWER than '..Said'. Prove '..Said' where nothing that the law and all that it calls make is longer than what came in: it says more and counts as full. Else prove '..UptoSaid'. A law counts once. -/
mutual
def uptoBulk {H : Type} : DataW H → Nat
  | .lit (.string bytes) => bytes.length + 1
  | .lit _ => 1
  | .nil => 1
  | .ptr d => uptoBulk d + 1
  | .slice elems spare => uptoBulkAll elems + uptoBulkAll spare + 1
  | .agg parts => uptoBulkAll parts + 1
  | .iface _ d => uptoBulk d + 1
  | .map entries => uptoBulkEntries entries + 1
  | .held _ => 1
def uptoBulkAll {H : Type} : List (DataW H) → Nat
  | [] => 0
  | d :: r => uptoBulk d + uptoBulkAll r
def uptoBulkEntries {H : Type} : List (Lit × DataW H) → Nat
  | [] => 0
  | x :: r => uptoBulkEntry x + uptoBulkEntries r
def uptoBulkEntry {H : Type} : Lit × DataW H → Nat
  | (.string bytes, d) => bytes.length + uptoBulk d + 1
  | (_, d) => uptoBulk d + 1
 end
def uptoSmall : (H : Type) → List (DataW H) → Bool := fun _ ds => decide (uptoBulkAll ds ≤ 1048576)
def OpenSpec.upto (s : _root_.Go.ChangeSpec) : _root_.Go.OpenSpec := { _root_.Go.OpenSpec.ofChange s with cond := some uptoSmall }

/-- 'limitrophelaw11.SilenceOwners', WHERE WHAT IT READS IS OF BULK AT MOST 1048576: true; the input reads as it did. -/
def silenceOwnersUptoRow : OpenClaim := { program := "ytolnajnlcdacmaa", sum := "68af2e2b3a5a53c8e95b6e48b4b8db72b5a8c4513b982a94ddc426a84468c602", func := "limitrophe/limitrophelaw11.SilenceOwners", spec := "silenceOwners", unfollowed := true, recurses := true, plainKeys := false, apart := false, narrowed := true }
def SilenceOwnersUptoSaid : Prop := silenceOwnersUptoRow.holds Try.pinned (OpenSpec.upto silenceOwnersSpec)

/-- 'limitrophelaw11.SilenceTurned', WHERE WHAT IT READS IS OF BULK AT MOST 1048576: true; the input reads as it did. -/
def silenceTurnedUptoRow : OpenClaim := { program := "ytolnajnlcdacmaa", sum := "68af2e2b3a5a53c8e95b6e48b4b8db72b5a8c4513b982a94ddc426a84468c602", func := "limitrophe/limitrophelaw11.SilenceTurned", spec := "silenceTurned", unfollowed := true, recurses := true, plainKeys := false, apart := false, narrowed := true }
def SilenceTurnedUptoSaid : Prop := silenceTurnedUptoRow.holds Try.pinned (OpenSpec.upto silenceTurnedSpec)

/-- 'limitrophelaw11.SilenceChained', WHERE WHAT IT READS IS OF BULK AT MOST 1048576: true; the input reads as it did. -/
def silenceChainedUptoRow : OpenClaim := { program := "ytolnajnlcdacmaa", sum := "68af2e2b3a5a53c8e95b6e48b4b8db72b5a8c4513b982a94ddc426a84468c602", func := "limitrophe/limitrophelaw11.SilenceChained", spec := "silenceChained", unfollowed := true, recurses := true, plainKeys := false, apart := false, narrowed := true }
def SilenceChainedUptoSaid : Prop := silenceChainedUptoRow.holds Try.pinned (OpenSpec.upto silenceChainedSpec)

/-- 'limitrophelaw11.SilenceRights', WHERE WHAT IT READS IS OF BULK AT MOST 1048576: true; the input reads as it did. -/
def silenceRightsUptoRow : OpenClaim := { program := "ytolnajnlcdacmaa", sum := "68af2e2b3a5a53c8e95b6e48b4b8db72b5a8c4513b982a94ddc426a84468c602", func := "limitrophe/limitrophelaw11.SilenceRights", spec := "silenceRights", unfollowed := true, recurses := true, plainKeys := false, apart := false, narrowed := true }
def SilenceRightsUptoSaid : Prop := silenceRightsUptoRow.holds Try.pinned (OpenSpec.upto silenceRightsSpec)

/-- 'limitrophelaw11.SilenceFollows', WHERE WHAT IT READS IS OF BULK AT MOST 1048576: true; the input reads as it did. -/
def silenceFollowsUptoRow : OpenClaim := { program := "ytolnajnlcdacmaa", sum := "68af2e2b3a5a53c8e95b6e48b4b8db72b5a8c4513b982a94ddc426a84468c602", func := "limitrophe/limitrophelaw11.SilenceFollows", spec := "silenceFollows", unfollowed := true, recurses := true, plainKeys := false, apart := false, narrowed := true }
def SilenceFollowsUptoSaid : Prop := silenceFollowsUptoRow.holds Try.pinned (OpenSpec.upto silenceFollowsSpec)

/-- 'limitrophelaw11.SilenceMore', WHERE WHAT IT READS IS OF BULK AT MOST 1048576: true; the input reads as it did. -/
def silenceMoreUptoRow : OpenClaim := { program := "ytolnajnlcdacmaa", sum := "68af2e2b3a5a53c8e95b6e48b4b8db72b5a8c4513b982a94ddc426a84468c602", func := "limitrophe/limitrophelaw11.SilenceMore", spec := "silenceMore", unfollowed := true, recurses := true, plainKeys := false, apart := false, narrowed := true }
def SilenceMoreUptoSaid : Prop := silenceMoreUptoRow.holds Try.pinned (OpenSpec.upto silenceMoreSpec)

/-- 'limitrophelaw11.SilenceShown', WHERE WHAT IT READS IS OF BULK AT MOST 1048576: true; the input reads as it did. -/
def silenceShownUptoRow : OpenClaim := { program := "ytolnajnlcdacmaa", sum := "68af2e2b3a5a53c8e95b6e48b4b8db72b5a8c4513b982a94ddc426a84468c602", func := "limitrophe/limitrophelaw11.SilenceShown", spec := "silenceShown", unfollowed := true, recurses := true, plainKeys := false, apart := false, narrowed := true }
def SilenceShownUptoSaid : Prop := silenceShownUptoRow.holds Try.pinned (OpenSpec.upto silenceShownSpec)

/-- 'limitrophelaw11.SilenceProved', WHERE WHAT IT READS IS OF BULK AT MOST 1048576: true; the input reads as it did. -/
def silenceProvedUptoRow : OpenClaim := { program := "ytolnajnlcdacmaa", sum := "68af2e2b3a5a53c8e95b6e48b4b8db72b5a8c4513b982a94ddc426a84468c602", func := "limitrophe/limitrophelaw11.SilenceProved", spec := "silenceProved", unfollowed := true, recurses := true, plainKeys := false, apart := false, narrowed := true }
def SilenceProvedUptoSaid : Prop := silenceProvedUptoRow.holds Try.pinned (OpenSpec.upto silenceProvedSpec)

/-- 'limitrophelaw11.SilenceSmall', WHERE WHAT IT READS IS OF BULK AT MOST 1048576: true; the input reads as it did. -/
def silenceSmallUptoRow : OpenClaim := { program := "ytolnajnlcdacmaa", sum := "68af2e2b3a5a53c8e95b6e48b4b8db72b5a8c4513b982a94ddc426a84468c602", func := "limitrophe/limitrophelaw11.SilenceSmall", spec := "silenceSmall", unfollowed := true, recurses := true, plainKeys := false, apart := false, narrowed := true }
def SilenceSmallUptoSaid : Prop := silenceSmallUptoRow.holds Try.pinned (OpenSpec.upto silenceSmallSpec)

end Rows
end Go.Proofs.Ytolnajnlcdacmaa
