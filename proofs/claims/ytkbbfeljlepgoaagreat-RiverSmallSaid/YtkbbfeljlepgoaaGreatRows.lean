/-
  No cell of these rows narrows 'for every input' (looked for: loops, veiled, ifaces, maps, wideKeys, modest, calm, conditions, laid).
  DERIVED. THE GIVEN ROWS OF THIS SEAT. 3 by the template 'for every input the law returns true; each argument reads behind the call as it read before'; 0 by the template 'total and deterministic' (their statements: YtkbbfeljlepgoaaGreatTotals.lean).
  GIVEN WITH THE SEED: the statements are not yours to turn. If you find one false, say at which input.
  Laid BY PROGRAM, IN A SANDBOX (cutbox-rows.mjs): the forced cells as the released guide's own fill.sh prints them over the translation 5e767fb80382bbbc… (all of the seat's roots in one cut). By AI agents, Wed Nov 11 2026. No macro, syntax, notation, axiom, sorry.
-/
import Derived.Test.YtkbbfeljlepgoaaGreatChecked
import GoSem.Claim
import GoSem.ClaimJoined
import GoSem.ClaimMapViews
import Derived.JoinedTies
import Derived.KernelRfl
namespace Go.Proofs.YtkbbfeljlepgoaaGreat
/- THE CELL 'sum', in the pinned program and in every row, IS THE sha256 OF THE DUMP (.gsa) THAT YtkbbfeljlepgoaaGreatProg.lean LOADS. Nothing in Lean hashes anything: it is a label: what it is worth is what the hold of that sum in a sandbox is worth. -/
noncomputable def Tryz.pinned : Pinned := { name := "ytkbbfeljlepgoaagreat", sum := "5e767fb80382bbbc0ce4074ab5ece343e676ef7c959118d0b350682de9a05235", checked := Tryz.checked }
namespace Rows
def none {H : Type} : Left H := { results := [], args := [] }

/-- 'limitrophelaw05.RiverYears': WHATEVER THE INPUT: true; the input reads as it did. -/
def riverYearsSpec : ChangeSpec := { name := "riverYears", fn := fun _ => fun
  | [d1, d2, d3, d4, d5] => { results := [.lit (.bool true)], args := [d1, d2, d3, d4, d5] }
  | _ => none }
def riverYearsRow : OpenClaim := { program := "ytkbbfeljlepgoaagreat", sum := "5e767fb80382bbbc0ce4074ab5ece343e676ef7c959118d0b350682de9a05235", func := "limitrophe/limitrophelaw05.RiverYears", spec := "riverYears", inPlace := ["internal/bytealg.IndexByteString"], unfollowed := true, recurses := true, apart := false }
def RiverYearsSaid : Prop := riverYearsRow.holds Tryz.pinned (OpenSpec.ofChange riverYearsSpec)

/-- ITS FALSE NEIGHBOUR: 'it returns false'. Refute it at one input. -/
def riverYearsWrong : ChangeSpec := { name := "riverYears", fn := fun _ => fun
  | [d1, d2, d3, d4, d5] => { results := [.lit (.bool false)], args := [d1, d2, d3, d4, d5] }
  | _ => none }
def RiverYearsWrongFalsely : Prop := riverYearsRow.holds Tryz.pinned (OpenSpec.ofChange riverYearsWrong)

/-- 'limitrophelaw05.RiverSmall': WHATEVER THE INPUT: true; the input reads as it did. -/
def riverSmallSpec : ChangeSpec := { name := "riverSmall", fn := fun _ => fun
  | [] => { results := [.lit (.bool true)], args := [] }
  | _ => none }
def riverSmallRow : OpenClaim := { program := "ytkbbfeljlepgoaagreat", sum := "5e767fb80382bbbc0ce4074ab5ece343e676ef7c959118d0b350682de9a05235", func := "limitrophe/limitrophelaw05.RiverSmall", spec := "riverSmall", inPlace := ["internal/bytealg.IndexByteString"], unfollowed := true, recurses := true, apart := false }
def RiverSmallSaid : Prop := riverSmallRow.holds Tryz.pinned (OpenSpec.ofChange riverSmallSpec)

/-- ITS FALSE NEIGHBOUR: 'it returns false'. Refute it at one input. -/
def riverSmallWrong : ChangeSpec := { name := "riverSmall", fn := fun _ => fun
  | [] => { results := [.lit (.bool false)], args := [] }
  | _ => none }
def RiverSmallWrongFalsely : Prop := riverSmallRow.holds Tryz.pinned (OpenSpec.ofChange riverSmallWrong)

/-- 'limitrophelaw05.RiverTold': WHATEVER THE INPUT: true; the input reads as it did. -/
def riverToldSpec : ChangeSpec := { name := "riverTold", fn := fun _ => fun
  | [d] => { results := [.lit (.bool true)], args := [d] }
  | _ => none }
def riverToldRow : OpenClaim := { program := "ytkbbfeljlepgoaagreat", sum := "5e767fb80382bbbc0ce4074ab5ece343e676ef7c959118d0b350682de9a05235", func := "limitrophe/limitrophelaw05.RiverTold", spec := "riverTold", inPlace := ["internal/bytealg.IndexByteString"], unfollowed := true, recurses := true, apart := false }
def RiverToldSaid : Prop := riverToldRow.holds Tryz.pinned (OpenSpec.ofChange riverToldSpec)

/-- ITS FALSE NEIGHBOUR: 'it returns false'. Refute it at one input. -/
def riverToldWrong : ChangeSpec := { name := "riverTold", fn := fun _ => fun
  | [d] => { results := [.lit (.bool false)], args := [d] }
  | _ => none }
def RiverToldWrongFalsely : Prop := riverToldRow.holds Tryz.pinned (OpenSpec.ofChange riverToldWrong)

/- THE SECOND FORM. 'bulk': how many values and letters a reading holds, each counted each time it is reached (what is shared counts as often as it is met; a slice's spare places count too). A statement '..UptoSaid' is the law's where the arguments, and the package variables that the reading takes, are together of bulk at most 1048576: NARROWER than '..Said'. Prove '..Said' where nothing that the law and all that it calls make is longer than what came in: it says more and counts as full. Else prove '..UptoSaid'. A law counts once. -/
mutual
def uptoBulk {H : Type} : DataW H → Nat
  | .lit (.string bytes) => bytes.length + 1
  | .lit _ => 1
  | .nil => 1
  | .ptr d => uptoBulk d + 1
  | .slice elems spare => uptoBulkAll elems + uptoBulkAll spare + 1
  | .agg parts => uptoBulkAll parts + 1
  | .iface _ d => uptoBulk d + 1
  | .map entries => uptoBulkEntries entries + 1
  | .held _ => 1
def uptoBulkAll {H : Type} : List (DataW H) → Nat
  | [] => 0
  | d :: r => uptoBulk d + uptoBulkAll r
def uptoBulkEntries {H : Type} : List (Lit × DataW H) → Nat
  | [] => 0
  | x :: r => uptoBulkEntry x + uptoBulkEntries r
def uptoBulkEntry {H : Type} : Lit × DataW H → Nat
  | (.string bytes, d) => bytes.length + uptoBulk d + 1
  | (_, d) => uptoBulk d + 1
 end
def uptoSmall : (H : Type) → List (DataW H) → Bool := fun _ ds => decide (uptoBulkAll ds ≤ 1048576)
def OpenSpec.upto (s : _root_.Go.ChangeSpec) : _root_.Go.OpenSpec := { _root_.Go.OpenSpec.ofChange s with cond := some uptoSmall }

/-- 'limitrophelaw05.RiverYears', WHERE WHAT IT READS IS OF BULK AT MOST 1048576: true; the input reads as it did. -/
def riverYearsUptoRow : OpenClaim := { program := "ytkbbfeljlepgoaagreat", sum := "5e767fb80382bbbc0ce4074ab5ece343e676ef7c959118d0b350682de9a05235", func := "limitrophe/limitrophelaw05.RiverYears", spec := "riverYears", inPlace := ["internal/bytealg.IndexByteString"], unfollowed := true, recurses := true, apart := false, narrowed := true }
def RiverYearsUptoSaid : Prop := riverYearsUptoRow.holds Tryz.pinned (OpenSpec.upto riverYearsSpec)

/-- 'limitrophelaw05.RiverSmall', WHERE WHAT IT READS IS OF BULK AT MOST 1048576: true; the input reads as it did. -/
def riverSmallUptoRow : OpenClaim := { program := "ytkbbfeljlepgoaagreat", sum := "5e767fb80382bbbc0ce4074ab5ece343e676ef7c959118d0b350682de9a05235", func := "limitrophe/limitrophelaw05.RiverSmall", spec := "riverSmall", inPlace := ["internal/bytealg.IndexByteString"], unfollowed := true, recurses := true, apart := false, narrowed := true }
def RiverSmallUptoSaid : Prop := riverSmallUptoRow.holds Tryz.pinned (OpenSpec.upto riverSmallSpec)

/-- 'limitrophelaw05.RiverTold', WHERE WHAT IT READS IS OF BULK AT MOST 1048576: true; the input reads as it did. -/
def riverToldUptoRow : OpenClaim := { program := "ytkbbfeljlepgoaagreat", sum := "5e767fb80382bbbc0ce4074ab5ece343e676ef7c959118d0b350682de9a05235", func := "limitrophe/limitrophelaw05.RiverTold", spec := "riverTold", inPlace := ["internal/bytealg.IndexByteString"], unfollowed := true, recurses := true, apart := false, narrowed := true }
def RiverToldUptoSaid : Prop := riverToldUptoRow.holds Tryz.pinned (OpenSpec.upto riverToldSpec)

end Rows
end Go.Proofs.YtkbbfeljlepgoaaGreat
