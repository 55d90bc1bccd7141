/-
  No cell of these rows narrows 'for every input' (looked for: loops, veiled, ifaces, maps, wideKeys, modest, calm, conditions, laid).
  DERIVED. THE GIVEN ROWS OF THIS SEAT. 8 by the template 'for every input the law returns true; each argument reads behind the call as it read before'; 0 by the template 'total and deterministic' (their statements: YtmpjpjfkbmlmfaaTotals.lean).
  GIVEN WITH THE SEED: the statements are not yours to turn. If you find one false, say at which input.
  Laid BY PROGRAM, IN A SANDBOX (cutbox-rows.mjs): the forced cells as the released guide's own fill.sh prints them over the translation 59022034d90eaba0… (all of the seat's roots in one cut). By AI agents, Wed Nov 11 2026. No macro, syntax, notation, axiom, sorry.
-/
import Derived.Test.YtmpjpjfkbmlmfaaChecked
import GoSem.Claim
import GoSem.ClaimJoined
import GoSem.ClaimMapViews
import Derived.JoinedTies
import Derived.KernelRfl
namespace Go.Proofs.Ytmpjpjfkbmlmfaa
/- THE CELL 'sum', in the pinned program and in every row, IS THE sha256 OF THE DUMP (.gsa) THAT YtmpjpjfkbmlmfaaProg.lean LOADS. Nothing in Lean hashes anything: it is a label: what it is worth is what the hold of that sum in a sandbox is worth. -/
noncomputable def Try.pinned : Pinned := { name := "ytmpjpjfkbmlmfaa", sum := "59022034d90eaba0e09e7e08bd3357da2b9e3476ccea575a7fc1108392c65a39", checked := Try.checked }
namespace Rows
def none {H : Type} : Left H := { results := [], args := [] }

/-- 'limitrophelaw07.BarterOrders': WHATEVER THE INPUT: true; the input reads as it did. -/
def barterOrdersSpec : ChangeSpec := { name := "barterOrders", fn := fun _ => fun
  | [d1, d2] => { results := [.lit (.bool true)], args := [d1, d2] }
  | _ => none }
def barterOrdersRow : OpenClaim := { program := "ytmpjpjfkbmlmfaa", sum := "59022034d90eaba0e09e7e08bd3357da2b9e3476ccea575a7fc1108392c65a39", func := "limitrophe/limitrophelaw07.BarterOrders", spec := "barterOrders", unfollowed := true, recurses := true, apart := false }
def BarterOrdersSaid : Prop := barterOrdersRow.holds Try.pinned (OpenSpec.ofChange barterOrdersSpec)

/-- ITS FALSE NEIGHBOUR: 'it returns false'. Refute it at one input. -/
def barterOrdersWrong : ChangeSpec := { name := "barterOrders", fn := fun _ => fun
  | [d1, d2] => { results := [.lit (.bool false)], args := [d1, d2] }
  | _ => none }
def BarterOrdersWrongFalsely : Prop := barterOrdersRow.holds Try.pinned (OpenSpec.ofChange barterOrdersWrong)

/-- 'limitrophelaw07.BarterValued': WHATEVER THE INPUT: true; the input reads as it did. -/
def barterValuedSpec : ChangeSpec := { name := "barterValued", fn := fun _ => fun
  | [d1, d2, d3, d4] => { results := [.lit (.bool true)], args := [d1, d2, d3, d4] }
  | _ => none }
def barterValuedRow : OpenClaim := { program := "ytmpjpjfkbmlmfaa", sum := "59022034d90eaba0e09e7e08bd3357da2b9e3476ccea575a7fc1108392c65a39", func := "limitrophe/limitrophelaw07.BarterValued", spec := "barterValued", unfollowed := true, recurses := true, apart := false }
def BarterValuedSaid : Prop := barterValuedRow.holds Try.pinned (OpenSpec.ofChange barterValuedSpec)

/-- ITS FALSE NEIGHBOUR: 'it returns false'. Refute it at one input. -/
def barterValuedWrong : ChangeSpec := { name := "barterValued", fn := fun _ => fun
  | [d1, d2, d3, d4] => { results := [.lit (.bool false)], args := [d1, d2, d3, d4] }
  | _ => none }
def BarterValuedWrongFalsely : Prop := barterValuedRow.holds Try.pinned (OpenSpec.ofChange barterValuedWrong)

/-- 'limitrophelaw07.BarterMost': WHATEVER THE INPUT: true; the input reads as it did. -/
def barterMostSpec : ChangeSpec := { name := "barterMost", fn := fun _ => fun
  | [d1, d2, d3] => { results := [.lit (.bool true)], args := [d1, d2, d3] }
  | _ => none }
def barterMostRow : OpenClaim := { program := "ytmpjpjfkbmlmfaa", sum := "59022034d90eaba0e09e7e08bd3357da2b9e3476ccea575a7fc1108392c65a39", func := "limitrophe/limitrophelaw07.BarterMost", spec := "barterMost", unfollowed := true, recurses := true, apart := false }
def BarterMostSaid : Prop := barterMostRow.holds Try.pinned (OpenSpec.ofChange barterMostSpec)

/-- ITS FALSE NEIGHBOUR: 'it returns false'. Refute it at one input. -/
def barterMostWrong : ChangeSpec := { name := "barterMost", fn := fun _ => fun
  | [d1, d2, d3] => { results := [.lit (.bool false)], args := [d1, d2, d3] }
  | _ => none }
def BarterMostWrongFalsely : Prop := barterMostRow.holds Try.pinned (OpenSpec.ofChange barterMostWrong)

/-- 'limitrophelaw07.BarterTurned': WHATEVER THE INPUT: true; the input reads as it did. -/
def barterTurnedSpec : ChangeSpec := { name := "barterTurned", fn := fun _ => fun
  | [d1, d2] => { results := [.lit (.bool true)], args := [d1, d2] }
  | _ => none }
def barterTurnedRow : OpenClaim := { program := "ytmpjpjfkbmlmfaa", sum := "59022034d90eaba0e09e7e08bd3357da2b9e3476ccea575a7fc1108392c65a39", func := "limitrophe/limitrophelaw07.BarterTurned", spec := "barterTurned", unfollowed := true, recurses := true, apart := false }
def BarterTurnedSaid : Prop := barterTurnedRow.holds Try.pinned (OpenSpec.ofChange barterTurnedSpec)

/-- ITS FALSE NEIGHBOUR: 'it returns false'. Refute it at one input. -/
def barterTurnedWrong : ChangeSpec := { name := "barterTurned", fn := fun _ => fun
  | [d1, d2] => { results := [.lit (.bool false)], args := [d1, d2] }
  | _ => none }
def BarterTurnedWrongFalsely : Prop := barterTurnedRow.holds Try.pinned (OpenSpec.ofChange barterTurnedWrong)

/-- 'limitrophelaw07.BarterBest': WHATEVER THE INPUT: true; the input reads as it did. -/
def barterBestSpec : ChangeSpec := { name := "barterBest", fn := fun _ => fun
  | [d1, d2] => { results := [.lit (.bool true)], args := [d1, d2] }
  | _ => none }
def barterBestRow : OpenClaim := { program := "ytmpjpjfkbmlmfaa", sum := "59022034d90eaba0e09e7e08bd3357da2b9e3476ccea575a7fc1108392c65a39", func := "limitrophe/limitrophelaw07.BarterBest", spec := "barterBest", unfollowed := true, recurses := true, apart := false }
def BarterBestSaid : Prop := barterBestRow.holds Try.pinned (OpenSpec.ofChange barterBestSpec)

/-- ITS FALSE NEIGHBOUR: 'it returns false'. Refute it at one input. -/
def barterBestWrong : ChangeSpec := { name := "barterBest", fn := fun _ => fun
  | [d1, d2] => { results := [.lit (.bool false)], args := [d1, d2] }
  | _ => none }
def BarterBestWrongFalsely : Prop := barterBestRow.holds Try.pinned (OpenSpec.ofChange barterBestWrong)

/-- 'limitrophelaw07.BarterExchanges': WHATEVER THE INPUT: true; the input reads as it did. -/
def barterExchangesSpec : ChangeSpec := { name := "barterExchanges", fn := fun _ => fun
  | [d1, d2] => { results := [.lit (.bool true)], args := [d1, d2] }
  | _ => none }
def barterExchangesRow : OpenClaim := { program := "ytmpjpjfkbmlmfaa", sum := "59022034d90eaba0e09e7e08bd3357da2b9e3476ccea575a7fc1108392c65a39", func := "limitrophe/limitrophelaw07.BarterExchanges", spec := "barterExchanges", unfollowed := true, recurses := true, apart := false }
def BarterExchangesSaid : Prop := barterExchangesRow.holds Try.pinned (OpenSpec.ofChange barterExchangesSpec)

/-- ITS FALSE NEIGHBOUR: 'it returns false'. Refute it at one input. -/
def barterExchangesWrong : ChangeSpec := { name := "barterExchanges", fn := fun _ => fun
  | [d1, d2] => { results := [.lit (.bool false)], args := [d1, d2] }
  | _ => none }
def BarterExchangesWrongFalsely : Prop := barterExchangesRow.holds Try.pinned (OpenSpec.ofChange barterExchangesWrong)

/-- 'limitrophelaw07.BarterEven': WHATEVER THE INPUT: true; the input reads as it did. -/
def barterEvenSpec : ChangeSpec := { name := "barterEven", fn := fun _ => fun
  | [d1, d2] => { results := [.lit (.bool true)], args := [d1, d2] }
  | _ => none }
def barterEvenRow : OpenClaim := { program := "ytmpjpjfkbmlmfaa", sum := "59022034d90eaba0e09e7e08bd3357da2b9e3476ccea575a7fc1108392c65a39", func := "limitrophe/limitrophelaw07.BarterEven", spec := "barterEven", unfollowed := true, recurses := true, apart := false }
def BarterEvenSaid : Prop := barterEvenRow.holds Try.pinned (OpenSpec.ofChange barterEvenSpec)

/-- ITS FALSE NEIGHBOUR: 'it returns false'. Refute it at one input. -/
def barterEvenWrong : ChangeSpec := { name := "barterEven", fn := fun _ => fun
  | [d1, d2] => { results := [.lit (.bool false)], args := [d1, d2] }
  | _ => none }
def BarterEvenWrongFalsely : Prop := barterEvenRow.holds Try.pinned (OpenSpec.ofChange barterEvenWrong)

/-- 'limitrophelaw07.BarterSmall': WHATEVER THE INPUT: true; the input reads as it did. -/
def barterSmallSpec : ChangeSpec := { name := "barterSmall", fn := fun _ => fun
  | [] => { results := [.lit (.bool true)], args := [] }
  | _ => none }
def barterSmallRow : OpenClaim := { program := "ytmpjpjfkbmlmfaa", sum := "59022034d90eaba0e09e7e08bd3357da2b9e3476ccea575a7fc1108392c65a39", func := "limitrophe/limitrophelaw07.BarterSmall", spec := "barterSmall", unfollowed := true, recurses := true, apart := false }
def BarterSmallSaid : Prop := barterSmallRow.holds Try.pinned (OpenSpec.ofChange barterSmallSpec)

/-- ITS FALSE NEIGHBOUR: 'it returns false'. Refute it at one input. -/
def barterSmallWrong : ChangeSpec := { name := "barterSmall", fn := fun _ => fun
  | [] => { results := [.lit (.bool false)], args := [] }
  | _ => none }
def BarterSmallWrongFalsely : Prop := barterSmallRow.holds Try.pinned (OpenSpec.ofChange barterSmallWrong)

/- THE SECOND FORM. 'bulk': how many values and letters a reading holds, each counted each time it is reached (what is shared counts as often as it is met; a slice's spare places count too). A statement '..UptoSaid' is the law's where the arguments, and the package variables that the reading takes, are together of bulk at most 1048576: NARROWER than '..Said'. Prove '..Said' where nothing that the law and all that it calls make is longer than what came in: it says more and counts as full. Else prove '..UptoSaid'. A law counts once. -/
mutual
def uptoBulk {H : Type} : DataW H → Nat
  | .lit (.string bytes) => bytes.length + 1
  | .lit _ => 1
  | .nil => 1
  | .ptr d => uptoBulk d + 1
  | .slice elems spare => uptoBulkAll elems + uptoBulkAll spare + 1
  | .agg parts => uptoBulkAll parts + 1
  | .iface _ d => uptoBulk d + 1
  | .map entries => uptoBulkEntries entries + 1
  | .held _ => 1
def uptoBulkAll {H : Type} : List (DataW H) → Nat
  | [] => 0
  | d :: r => uptoBulk d + uptoBulkAll r
def uptoBulkEntries {H : Type} : List (Lit × DataW H) → Nat
  | [] => 0
  | x :: r => uptoBulkEntry x + uptoBulkEntries r
def uptoBulkEntry {H : Type} : Lit × DataW H → Nat
  | (.string bytes, d) => bytes.length + uptoBulk d + 1
  | (_, d) => uptoBulk d + 1
 end
def uptoSmall : (H : Type) → List (DataW H) → Bool := fun _ ds => decide (uptoBulkAll ds ≤ 1048576)
def OpenSpec.upto (s : _root_.Go.ChangeSpec) : _root_.Go.OpenSpec := { _root_.Go.OpenSpec.ofChange s with cond := some uptoSmall }

/-- 'limitrophelaw07.BarterOrders', WHERE WHAT IT READS IS OF BULK AT MOST 1048576: true; the input reads as it did. -/
def barterOrdersUptoRow : OpenClaim := { program := "ytmpjpjfkbmlmfaa", sum := "59022034d90eaba0e09e7e08bd3357da2b9e3476ccea575a7fc1108392c65a39", func := "limitrophe/limitrophelaw07.BarterOrders", spec := "barterOrders", unfollowed := true, recurses := true, apart := false, narrowed := true }
def BarterOrdersUptoSaid : Prop := barterOrdersUptoRow.holds Try.pinned (OpenSpec.upto barterOrdersSpec)

/-- 'limitrophelaw07.BarterValued', WHERE WHAT IT READS IS OF BULK AT MOST 1048576: true; the input reads as it did. -/
def barterValuedUptoRow : OpenClaim := { program := "ytmpjpjfkbmlmfaa", sum := "59022034d90eaba0e09e7e08bd3357da2b9e3476ccea575a7fc1108392c65a39", func := "limitrophe/limitrophelaw07.BarterValued", spec := "barterValued", unfollowed := true, recurses := true, apart := false, narrowed := true }
def BarterValuedUptoSaid : Prop := barterValuedUptoRow.holds Try.pinned (OpenSpec.upto barterValuedSpec)

/-- 'limitrophelaw07.BarterMost', WHERE WHAT IT READS IS OF BULK AT MOST 1048576: true; the input reads as it did. -/
def barterMostUptoRow : OpenClaim := { program := "ytmpjpjfkbmlmfaa", sum := "59022034d90eaba0e09e7e08bd3357da2b9e3476ccea575a7fc1108392c65a39", func := "limitrophe/limitrophelaw07.BarterMost", spec := "barterMost", unfollowed := true, recurses := true, apart := false, narrowed := true }
def BarterMostUptoSaid : Prop := barterMostUptoRow.holds Try.pinned (OpenSpec.upto barterMostSpec)

/-- 'limitrophelaw07.BarterTurned', WHERE WHAT IT READS IS OF BULK AT MOST 1048576: true; the input reads as it did. -/
def barterTurnedUptoRow : OpenClaim := { program := "ytmpjpjfkbmlmfaa", sum := "59022034d90eaba0e09e7e08bd3357da2b9e3476ccea575a7fc1108392c65a39", func := "limitrophe/limitrophelaw07.BarterTurned", spec := "barterTurned", unfollowed := true, recurses := true, apart := false, narrowed := true }
def BarterTurnedUptoSaid : Prop := barterTurnedUptoRow.holds Try.pinned (OpenSpec.upto barterTurnedSpec)

/-- 'limitrophelaw07.BarterBest', WHERE WHAT IT READS IS OF BULK AT MOST 1048576: true; the input reads as it did. -/
def barterBestUptoRow : OpenClaim := { program := "ytmpjpjfkbmlmfaa", sum := "59022034d90eaba0e09e7e08bd3357da2b9e3476ccea575a7fc1108392c65a39", func := "limitrophe/limitrophelaw07.BarterBest", spec := "barterBest", unfollowed := true, recurses := true, apart := false, narrowed := true }
def BarterBestUptoSaid : Prop := barterBestUptoRow.holds Try.pinned (OpenSpec.upto barterBestSpec)

/-- 'limitrophelaw07.BarterExchanges', WHERE WHAT IT READS IS OF BULK AT MOST 1048576: true; the input reads as it did. -/
def barterExchangesUptoRow : OpenClaim := { program := "ytmpjpjfkbmlmfaa", sum := "59022034d90eaba0e09e7e08bd3357da2b9e3476ccea575a7fc1108392c65a39", func := "limitrophe/limitrophelaw07.BarterExchanges", spec := "barterExchanges", unfollowed := true, recurses := true, apart := false, narrowed := true }
def BarterExchangesUptoSaid : Prop := barterExchangesUptoRow.holds Try.pinned (OpenSpec.upto barterExchangesSpec)

/-- 'limitrophelaw07.BarterEven', WHERE WHAT IT READS IS OF BULK AT MOST 1048576: true; the input reads as it did. -/
def barterEvenUptoRow : OpenClaim := { program := "ytmpjpjfkbmlmfaa", sum := "59022034d90eaba0e09e7e08bd3357da2b9e3476ccea575a7fc1108392c65a39", func := "limitrophe/limitrophelaw07.BarterEven", spec := "barterEven", unfollowed := true, recurses := true, apart := false, narrowed := true }
def BarterEvenUptoSaid : Prop := barterEvenUptoRow.holds Try.pinned (OpenSpec.upto barterEvenSpec)

/-- 'limitrophelaw07.BarterSmall', WHERE WHAT IT READS IS OF BULK AT MOST 1048576: true; the input reads as it did. -/
def barterSmallUptoRow : OpenClaim := { program := "ytmpjpjfkbmlmfaa", sum := "59022034d90eaba0e09e7e08bd3357da2b9e3476ccea575a7fc1108392c65a39", func := "limitrophe/limitrophelaw07.BarterSmall", spec := "barterSmall", unfollowed := true, recurses := true, apart := false, narrowed := true }
def BarterSmallUptoSaid : Prop := barterSmallUptoRow.holds Try.pinned (OpenSpec.upto barterSmallSpec)

end Rows
end Go.Proofs.Ytmpjpjfkbmlmfaa
