/-
  No cell of these rows narrows 'for every input' (looked for: loops, veiled, ifaces, maps, wideKeys, modest, calm, conditions, laid).
  DERIVED. THE GIVEN ROWS OF THIS SEAT. 4 by the template 'for every input the law returns true; each argument reads behind the call as it read before'; 0 by the template 'total and deterministic' (their statements: YtmdpacgoijnonaaTotals.lean).
  GIVEN WITH THE SEED: the statements are not yours to turn. If you find one false, say at which input.
  Laid BY PROGRAM, IN A SANDBOX (cutbox-rows.mjs): the forced cells as the released guide's own fill.sh prints them over the translation 8af7bc6ecbee331d… (all of the seat's roots in one cut). By AI agents, Wed Nov 11 2026. No macro, syntax, notation, axiom, sorry.
-/
import Derived.Test.YtmdpacgoijnonaaChecked
import GoSem.Claim
import GoSem.ClaimJoined
import GoSem.ClaimMapViews
import Derived.JoinedTies
import Derived.KernelRfl
namespace Go.Proofs.Ytmdpacgoijnonaa
/- THE CELL 'sum', in the pinned program and in every row, IS THE sha256 OF THE DUMP (.gsa) THAT YtmdpacgoijnonaaProg.lean LOADS. Nothing in Lean hashes anything: it is a label: what it is worth is what the hold of that sum in a sandbox is worth. -/
noncomputable def Try.pinned : Pinned := { name := "ytmdpacgoijnonaa", sum := "8af7bc6ecbee331d49ab807066a94b4782a1a9dc75094c5732f10eae9c7d4c95", checked := Try.checked }
namespace Rows
def none {H : Type} : Left H := { results := [], args := [] }

/-- 'laws.FnGolden': WHATEVER THE INPUT: true; the input reads as it did. -/
def fnGoldenSpec : ChangeSpec := { name := "fnGolden", fn := fun _ => fun
  | [d] => { results := [.lit (.bool true)], args := [d] }
  | _ => none }
def fnGoldenRow : OpenClaim := { program := "ytmdpacgoijnonaa", sum := "8af7bc6ecbee331d49ab807066a94b4782a1a9dc75094c5732f10eae9c7d4c95", func := "loop.example/g03302/laws.FnGolden", spec := "fnGolden", apart := false }
def FnGoldenSaid : Prop := fnGoldenRow.holds Try.pinned (OpenSpec.ofChange fnGoldenSpec)

/-- ITS FALSE NEIGHBOUR: 'it returns false'. Refute it at one input. -/
def fnGoldenWrong : ChangeSpec := { name := "fnGolden", fn := fun _ => fun
  | [d] => { results := [.lit (.bool false)], args := [d] }
  | _ => none }
def FnGoldenWrongFalsely : Prop := fnGoldenRow.holds Try.pinned (OpenSpec.ofChange fnGoldenWrong)

/-- 'laws.FnExactGoldLoss': WHATEVER THE INPUT: true; the input reads as it did. -/
def fnExactGoldLossSpec : ChangeSpec := { name := "fnExactGoldLoss", fn := fun _ => fun
  | [d1, d2, d3] => { results := [.lit (.bool true)], args := [d1, d2, d3] }
  | _ => none }
def fnExactGoldLossRow : OpenClaim := { program := "ytmdpacgoijnonaa", sum := "8af7bc6ecbee331d49ab807066a94b4782a1a9dc75094c5732f10eae9c7d4c95", func := "loop.example/g03302/laws.FnExactGoldLoss", spec := "fnExactGoldLoss", apart := false }
def FnExactGoldLossSaid : Prop := fnExactGoldLossRow.holds Try.pinned (OpenSpec.ofChange fnExactGoldLossSpec)

/-- ITS FALSE NEIGHBOUR: 'it returns false'. Refute it at one input. -/
def fnExactGoldLossWrong : ChangeSpec := { name := "fnExactGoldLoss", fn := fun _ => fun
  | [d1, d2, d3] => { results := [.lit (.bool false)], args := [d1, d2, d3] }
  | _ => none }
def FnExactGoldLossWrongFalsely : Prop := fnExactGoldLossRow.holds Try.pinned (OpenSpec.ofChange fnExactGoldLossWrong)

/-- 'laws.FnWeights': WHATEVER THE INPUT: true; the input reads as it did. -/
def fnWeightsSpec : ChangeSpec := { name := "fnWeights", fn := fun _ => fun
  | [d] => { results := [.lit (.bool true)], args := [d] }
  | _ => none }
def fnWeightsRow : OpenClaim := { program := "ytmdpacgoijnonaa", sum := "8af7bc6ecbee331d49ab807066a94b4782a1a9dc75094c5732f10eae9c7d4c95", func := "loop.example/g03302/laws.FnWeights", spec := "fnWeights", apart := false }
def FnWeightsSaid : Prop := fnWeightsRow.holds Try.pinned (OpenSpec.ofChange fnWeightsSpec)

/-- ITS FALSE NEIGHBOUR: 'it returns false'. Refute it at one input. -/
def fnWeightsWrong : ChangeSpec := { name := "fnWeights", fn := fun _ => fun
  | [d] => { results := [.lit (.bool false)], args := [d] }
  | _ => none }
def FnWeightsWrongFalsely : Prop := fnWeightsRow.holds Try.pinned (OpenSpec.ofChange fnWeightsWrong)

/-- 'laws.FnExactCanTurn': WHATEVER THE INPUT: true; the input reads as it did. -/
def fnExactCanTurnSpec : ChangeSpec := { name := "fnExactCanTurn", fn := fun _ => fun
  | [d1, d2, d3] => { results := [.lit (.bool true)], args := [d1, d2, d3] }
  | _ => none }
def fnExactCanTurnRow : OpenClaim := { program := "ytmdpacgoijnonaa", sum := "8af7bc6ecbee331d49ab807066a94b4782a1a9dc75094c5732f10eae9c7d4c95", func := "loop.example/g03302/laws.FnExactCanTurn", spec := "fnExactCanTurn", apart := false }
def FnExactCanTurnSaid : Prop := fnExactCanTurnRow.holds Try.pinned (OpenSpec.ofChange fnExactCanTurnSpec)

/-- ITS FALSE NEIGHBOUR: 'it returns false'. Refute it at one input. -/
def fnExactCanTurnWrong : ChangeSpec := { name := "fnExactCanTurn", fn := fun _ => fun
  | [d1, d2, d3] => { results := [.lit (.bool false)], args := [d1, d2, d3] }
  | _ => none }
def FnExactCanTurnWrongFalsely : Prop := fnExactCanTurnRow.holds Try.pinned (OpenSpec.ofChange fnExactCanTurnWrong)

/- THE SECOND FORM. 'bulk': how many values and letters a reading holds, each counted each time it is reached (what is shared counts as often as it is met; a slice's spare places count too). A statement '..UptoSaid' is the law's where the arguments, and the package variables that the reading takes, are together of bulk at most 1048576: NARROWER than '..Said'. Prove '..Said' where nothing that the law and all that it calls make is longer than what came in: it says more and counts as full. Else prove '..UptoSaid'. A law counts once. -/
mutual
def uptoBulk {H : Type} : DataW H → Nat
  | .lit (.string bytes) => bytes.length + 1
  | .lit _ => 1
  | .nil => 1
  | .ptr d => uptoBulk d + 1
  | .slice elems spare => uptoBulkAll elems + uptoBulkAll spare + 1
  | .agg parts => uptoBulkAll parts + 1
  | .iface _ d => uptoBulk d + 1
  | .map entries => uptoBulkEntries entries + 1
  | .held _ => 1
def uptoBulkAll {H : Type} : List (DataW H) → Nat
  | [] => 0
  | d :: r => uptoBulk d + uptoBulkAll r
def uptoBulkEntries {H : Type} : List (Lit × DataW H) → Nat
  | [] => 0
  | x :: r => uptoBulkEntry x + uptoBulkEntries r
def uptoBulkEntry {H : Type} : Lit × DataW H → Nat
  | (.string bytes, d) => bytes.length + uptoBulk d + 1
  | (_, d) => uptoBulk d + 1
 end
def uptoSmall : (H : Type) → List (DataW H) → Bool := fun _ ds => decide (uptoBulkAll ds ≤ 1048576)
def OpenSpec.upto (s : _root_.Go.ChangeSpec) : _root_.Go.OpenSpec := { _root_.Go.OpenSpec.ofChange s with cond := some uptoSmall }

/-- 'laws.FnGolden', WHERE WHAT IT READS IS OF BULK AT MOST 1048576: true; the input reads as it did. -/
def fnGoldenUptoRow : OpenClaim := { program := "ytmdpacgoijnonaa", sum := "8af7bc6ecbee331d49ab807066a94b4782a1a9dc75094c5732f10eae9c7d4c95", func := "loop.example/g03302/laws.FnGolden", spec := "fnGolden", apart := false, narrowed := true }
def FnGoldenUptoSaid : Prop := fnGoldenUptoRow.holds Try.pinned (OpenSpec.upto fnGoldenSpec)

/-- 'laws.FnExactGoldLoss', WHERE WHAT IT READS IS OF BULK AT MOST 1048576: true; the input reads as it did. -/
def fnExactGoldLossUptoRow : OpenClaim := { program := "ytmdpacgoijnonaa", sum := "8af7bc6ecbee331d49ab807066a94b4782a1a9dc75094c5732f10eae9c7d4c95", func := "loop.example/g03302/laws.FnExactGoldLoss", spec := "fnExactGoldLoss", apart := false, narrowed := true }
def FnExactGoldLossUptoSaid : Prop := fnExactGoldLossUptoRow.holds Try.pinned (OpenSpec.upto fnExactGoldLossSpec)

/-- 'laws.FnWeights', WHERE WHAT IT READS IS OF BULK AT MOST 1048576: true; the input reads as it did. -/
def fnWeightsUptoRow : OpenClaim := { program := "ytmdpacgoijnonaa", sum := "8af7bc6ecbee331d49ab807066a94b4782a1a9dc75094c5732f10eae9c7d4c95", func := "loop.example/g03302/laws.FnWeights", spec := "fnWeights", apart := false, narrowed := true }
def FnWeightsUptoSaid : Prop := fnWeightsUptoRow.holds Try.pinned (OpenSpec.upto fnWeightsSpec)

/-- 'laws.FnExactCanTurn', WHERE WHAT IT READS IS OF BULK AT MOST 1048576: true; the input reads as it did. -/
def fnExactCanTurnUptoRow : OpenClaim := { program := "ytmdpacgoijnonaa", sum := "8af7bc6ecbee331d49ab807066a94b4782a1a9dc75094c5732f10eae9c7d4c95", func := "loop.example/g03302/laws.FnExactCanTurn", spec := "fnExactCanTurn", apart := false, narrowed := true }
def FnExactCanTurnUptoSaid : Prop := fnExactCanTurnUptoRow.holds Try.pinned (OpenSpec.upto fnExactCanTurnSpec)

end Rows
end Go.Proofs.Ytmdpacgoijnonaa
