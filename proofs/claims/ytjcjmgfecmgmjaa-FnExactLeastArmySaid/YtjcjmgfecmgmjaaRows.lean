/-
  No cell of these rows narrows 'for every input' (looked for: loops, veiled, ifaces, maps, wideKeys, modest, calm, conditions, laid).
  DERIVED. THE GIVEN ROWS OF THIS SEAT. 12 by the template 'for every input the law returns true; each argument reads behind the call as it read before'; 0 by the template 'total and deterministic' (their statements: YtjcjmgfecmgmjaaTotals.lean).
  GIVEN WITH THE SEED: the statements are not yours to turn. If you find one false, say at which input.
  Laid BY PROGRAM, IN A SANDBOX (cutbox-rows.mjs): the forced cells as the released guide's own fill.sh prints them over the translation dd889190e3d49063… (all of the seat's roots in one cut). By AI agents, Wed Nov 11 2026. No macro, syntax, notation, axiom, sorry.
-/
import Derived.Test.YtjcjmgfecmgmjaaChecked
import GoSem.Claim
import GoSem.ClaimJoined
import GoSem.ClaimMapViews
import Derived.JoinedTies
import Derived.KernelRfl
namespace Go.Proofs.Ytjcjmgfecmgmjaa
/- THE CELL 'sum', in the pinned program and in every row, IS THE sha256 OF THE DUMP (.gsa) THAT YtjcjmgfecmgmjaaProg.lean LOADS. Nothing in Lean hashes anything: it is a label: what it is worth is what the hold of that sum in a sandbox is worth. -/
noncomputable def Try.pinned : Pinned := { name := "ytjcjmgfecmgmjaa", sum := "dd889190e3d490639bdf05c9b87d88e4487780b32040bb805f628aa2666d9b1a", checked := Try.checked }
namespace Rows
def none {H : Type} : Left H := { results := [], args := [] }

/-- 'laws.FnArmies': WHATEVER THE INPUT: true; the input reads as it did. -/
def fnArmiesSpec : ChangeSpec := { name := "fnArmies", fn := fun _ => fun
  | [d] => { results := [.lit (.bool true)], args := [d] }
  | _ => none }
def fnArmiesRow : OpenClaim := { program := "ytjcjmgfecmgmjaa", sum := "dd889190e3d490639bdf05c9b87d88e4487780b32040bb805f628aa2666d9b1a", func := "loop.example/g03302/laws.FnArmies", spec := "fnArmies", apart := false }
def FnArmiesSaid : Prop := fnArmiesRow.holds Try.pinned (OpenSpec.ofChange fnArmiesSpec)

/-- ITS FALSE NEIGHBOUR: 'it returns false'. Refute it at one input. -/
def fnArmiesWrong : ChangeSpec := { name := "fnArmies", fn := fun _ => fun
  | [d] => { results := [.lit (.bool false)], args := [d] }
  | _ => none }
def FnArmiesWrongFalsely : Prop := fnArmiesRow.holds Try.pinned (OpenSpec.ofChange fnArmiesWrong)

/-- 'laws.FnExactWeightsOk': WHATEVER THE INPUT: true; the input reads as it did. -/
def fnExactWeightsOkSpec : ChangeSpec := { name := "fnExactWeightsOk", fn := fun _ => fun
  | [d1, d2] => { results := [.lit (.bool true)], args := [d1, d2] }
  | _ => none }
def fnExactWeightsOkRow : OpenClaim := { program := "ytjcjmgfecmgmjaa", sum := "dd889190e3d490639bdf05c9b87d88e4487780b32040bb805f628aa2666d9b1a", func := "loop.example/g03302/laws.FnExactWeightsOk", spec := "fnExactWeightsOk", apart := false }
def FnExactWeightsOkSaid : Prop := fnExactWeightsOkRow.holds Try.pinned (OpenSpec.ofChange fnExactWeightsOkSpec)

/-- ITS FALSE NEIGHBOUR: 'it returns false'. Refute it at one input. -/
def fnExactWeightsOkWrong : ChangeSpec := { name := "fnExactWeightsOk", fn := fun _ => fun
  | [d1, d2] => { results := [.lit (.bool false)], args := [d1, d2] }
  | _ => none }
def FnExactWeightsOkWrongFalsely : Prop := fnExactWeightsOkRow.holds Try.pinned (OpenSpec.ofChange fnExactWeightsOkWrong)

/-- 'laws.FnExactWeightTo': WHATEVER THE INPUT: true; the input reads as it did. -/
def fnExactWeightToSpec : ChangeSpec := { name := "fnExactWeightTo", fn := fun _ => fun
  | [d1, d2] => { results := [.lit (.bool true)], args := [d1, d2] }
  | _ => none }
def fnExactWeightToRow : OpenClaim := { program := "ytjcjmgfecmgmjaa", sum := "dd889190e3d490639bdf05c9b87d88e4487780b32040bb805f628aa2666d9b1a", func := "loop.example/g03302/laws.FnExactWeightTo", spec := "fnExactWeightTo", apart := false }
def FnExactWeightToSaid : Prop := fnExactWeightToRow.holds Try.pinned (OpenSpec.ofChange fnExactWeightToSpec)

/-- ITS FALSE NEIGHBOUR: 'it returns false'. Refute it at one input. -/
def fnExactWeightToWrong : ChangeSpec := { name := "fnExactWeightTo", fn := fun _ => fun
  | [d1, d2] => { results := [.lit (.bool false)], args := [d1, d2] }
  | _ => none }
def FnExactWeightToWrongFalsely : Prop := fnExactWeightToRow.holds Try.pinned (OpenSpec.ofChange fnExactWeightToWrong)

/-- 'laws.FnExactClassWeights': WHATEVER THE INPUT: true; the input reads as it did. -/
def fnExactClassWeightsSpec : ChangeSpec := { name := "fnExactClassWeights", fn := fun _ => fun
  | [d1, d2] => { results := [.lit (.bool true)], args := [d1, d2] }
  | _ => none }
def fnExactClassWeightsRow : OpenClaim := { program := "ytjcjmgfecmgmjaa", sum := "dd889190e3d490639bdf05c9b87d88e4487780b32040bb805f628aa2666d9b1a", func := "loop.example/g03302/laws.FnExactClassWeights", spec := "fnExactClassWeights", apart := false }
def FnExactClassWeightsSaid : Prop := fnExactClassWeightsRow.holds Try.pinned (OpenSpec.ofChange fnExactClassWeightsSpec)

/-- ITS FALSE NEIGHBOUR: 'it returns false'. Refute it at one input. -/
def fnExactClassWeightsWrong : ChangeSpec := { name := "fnExactClassWeights", fn := fun _ => fun
  | [d1, d2] => { results := [.lit (.bool false)], args := [d1, d2] }
  | _ => none }
def FnExactClassWeightsWrongFalsely : Prop := fnExactClassWeightsRow.holds Try.pinned (OpenSpec.ofChange fnExactClassWeightsWrong)

/-- 'laws.FnExactArmyOk': WHATEVER THE INPUT: true; the input reads as it did. -/
def fnExactArmyOkSpec : ChangeSpec := { name := "fnExactArmyOk", fn := fun _ => fun
  | [d] => { results := [.lit (.bool true)], args := [d] }
  | _ => none }
def fnExactArmyOkRow : OpenClaim := { program := "ytjcjmgfecmgmjaa", sum := "dd889190e3d490639bdf05c9b87d88e4487780b32040bb805f628aa2666d9b1a", func := "loop.example/g03302/laws.FnExactArmyOk", spec := "fnExactArmyOk", apart := false }
def FnExactArmyOkSaid : Prop := fnExactArmyOkRow.holds Try.pinned (OpenSpec.ofChange fnExactArmyOkSpec)

/-- ITS FALSE NEIGHBOUR: 'it returns false'. Refute it at one input. -/
def fnExactArmyOkWrong : ChangeSpec := { name := "fnExactArmyOk", fn := fun _ => fun
  | [d] => { results := [.lit (.bool false)], args := [d] }
  | _ => none }
def FnExactArmyOkWrongFalsely : Prop := fnExactArmyOkRow.holds Try.pinned (OpenSpec.ofChange fnExactArmyOkWrong)

/-- 'laws.FnExactColumnWeights': WHATEVER THE INPUT: true; the input reads as it did. -/
def fnExactColumnWeightsSpec : ChangeSpec := { name := "fnExactColumnWeights", fn := fun _ => fun
  | [d1, d2] => { results := [.lit (.bool true)], args := [d1, d2] }
  | _ => none }
def fnExactColumnWeightsRow : OpenClaim := { program := "ytjcjmgfecmgmjaa", sum := "dd889190e3d490639bdf05c9b87d88e4487780b32040bb805f628aa2666d9b1a", func := "loop.example/g03302/laws.FnExactColumnWeights", spec := "fnExactColumnWeights", apart := false }
def FnExactColumnWeightsSaid : Prop := fnExactColumnWeightsRow.holds Try.pinned (OpenSpec.ofChange fnExactColumnWeightsSpec)

/-- ITS FALSE NEIGHBOUR: 'it returns false'. Refute it at one input. -/
def fnExactColumnWeightsWrong : ChangeSpec := { name := "fnExactColumnWeights", fn := fun _ => fun
  | [d1, d2] => { results := [.lit (.bool false)], args := [d1, d2] }
  | _ => none }
def FnExactColumnWeightsWrongFalsely : Prop := fnExactColumnWeightsRow.holds Try.pinned (OpenSpec.ofChange fnExactColumnWeightsWrong)

/-- 'laws.FnExactRowWeights': WHATEVER THE INPUT: true; the input reads as it did. -/
def fnExactRowWeightsSpec : ChangeSpec := { name := "fnExactRowWeights", fn := fun _ => fun
  | [d1, d2] => { results := [.lit (.bool true)], args := [d1, d2] }
  | _ => none }
def fnExactRowWeightsRow : OpenClaim := { program := "ytjcjmgfecmgmjaa", sum := "dd889190e3d490639bdf05c9b87d88e4487780b32040bb805f628aa2666d9b1a", func := "loop.example/g03302/laws.FnExactRowWeights", spec := "fnExactRowWeights", apart := false }
def FnExactRowWeightsSaid : Prop := fnExactRowWeightsRow.holds Try.pinned (OpenSpec.ofChange fnExactRowWeightsSpec)

/-- ITS FALSE NEIGHBOUR: 'it returns false'. Refute it at one input. -/
def fnExactRowWeightsWrong : ChangeSpec := { name := "fnExactRowWeights", fn := fun _ => fun
  | [d1, d2] => { results := [.lit (.bool false)], args := [d1, d2] }
  | _ => none }
def FnExactRowWeightsWrongFalsely : Prop := fnExactRowWeightsRow.holds Try.pinned (OpenSpec.ofChange fnExactRowWeightsWrong)

/-- 'laws.FnExactSumOf': WHATEVER THE INPUT: true; the input reads as it did. -/
def fnExactSumOfSpec : ChangeSpec := { name := "fnExactSumOf", fn := fun _ => fun
  | [d1, d2, d3] => { results := [.lit (.bool true)], args := [d1, d2, d3] }
  | _ => none }
def fnExactSumOfRow : OpenClaim := { program := "ytjcjmgfecmgmjaa", sum := "dd889190e3d490639bdf05c9b87d88e4487780b32040bb805f628aa2666d9b1a", func := "loop.example/g03302/laws.FnExactSumOf", spec := "fnExactSumOf", apart := false }
def FnExactSumOfSaid : Prop := fnExactSumOfRow.holds Try.pinned (OpenSpec.ofChange fnExactSumOfSpec)

/-- ITS FALSE NEIGHBOUR: 'it returns false'. Refute it at one input. -/
def fnExactSumOfWrong : ChangeSpec := { name := "fnExactSumOf", fn := fun _ => fun
  | [d1, d2, d3] => { results := [.lit (.bool false)], args := [d1, d2, d3] }
  | _ => none }
def FnExactSumOfWrongFalsely : Prop := fnExactSumOfRow.holds Try.pinned (OpenSpec.ofChange fnExactSumOfWrong)

/-- 'laws.FnExactAddWeights': WHATEVER THE INPUT: true; the input reads as it did. -/
def fnExactAddWeightsSpec : ChangeSpec := { name := "fnExactAddWeights", fn := fun _ => fun
  | [d1, d2, d3] => { results := [.lit (.bool true)], args := [d1, d2, d3] }
  | _ => none }
def fnExactAddWeightsRow : OpenClaim := { program := "ytjcjmgfecmgmjaa", sum := "dd889190e3d490639bdf05c9b87d88e4487780b32040bb805f628aa2666d9b1a", func := "loop.example/g03302/laws.FnExactAddWeights", spec := "fnExactAddWeights", apart := false }
def FnExactAddWeightsSaid : Prop := fnExactAddWeightsRow.holds Try.pinned (OpenSpec.ofChange fnExactAddWeightsSpec)

/-- ITS FALSE NEIGHBOUR: 'it returns false'. Refute it at one input. -/
def fnExactAddWeightsWrong : ChangeSpec := { name := "fnExactAddWeights", fn := fun _ => fun
  | [d1, d2, d3] => { results := [.lit (.bool false)], args := [d1, d2, d3] }
  | _ => none }
def FnExactAddWeightsWrongFalsely : Prop := fnExactAddWeightsRow.holds Try.pinned (OpenSpec.ofChange fnExactAddWeightsWrong)

/-- 'laws.FnExactArmySum': WHATEVER THE INPUT: true; the input reads as it did. -/
def fnExactArmySumSpec : ChangeSpec := { name := "fnExactArmySum", fn := fun _ => fun
  | [d1, d2] => { results := [.lit (.bool true)], args := [d1, d2] }
  | _ => none }
def fnExactArmySumRow : OpenClaim := { program := "ytjcjmgfecmgmjaa", sum := "dd889190e3d490639bdf05c9b87d88e4487780b32040bb805f628aa2666d9b1a", func := "loop.example/g03302/laws.FnExactArmySum", spec := "fnExactArmySum", apart := false }
def FnExactArmySumSaid : Prop := fnExactArmySumRow.holds Try.pinned (OpenSpec.ofChange fnExactArmySumSpec)

/-- ITS FALSE NEIGHBOUR: 'it returns false'. Refute it at one input. -/
def fnExactArmySumWrong : ChangeSpec := { name := "fnExactArmySum", fn := fun _ => fun
  | [d1, d2] => { results := [.lit (.bool false)], args := [d1, d2] }
  | _ => none }
def FnExactArmySumWrongFalsely : Prop := fnExactArmySumRow.holds Try.pinned (OpenSpec.ofChange fnExactArmySumWrong)

/-- 'laws.FnExactLeastArmy': WHATEVER THE INPUT: true; the input reads as it did. -/
def fnExactLeastArmySpec : ChangeSpec := { name := "fnExactLeastArmy", fn := fun _ => fun
  | [d] => { results := [.lit (.bool true)], args := [d] }
  | _ => none }
def fnExactLeastArmyRow : OpenClaim := { program := "ytjcjmgfecmgmjaa", sum := "dd889190e3d490639bdf05c9b87d88e4487780b32040bb805f628aa2666d9b1a", func := "loop.example/g03302/laws.FnExactLeastArmy", spec := "fnExactLeastArmy", apart := false }
def FnExactLeastArmySaid : Prop := fnExactLeastArmyRow.holds Try.pinned (OpenSpec.ofChange fnExactLeastArmySpec)

/-- ITS FALSE NEIGHBOUR: 'it returns false'. Refute it at one input. -/
def fnExactLeastArmyWrong : ChangeSpec := { name := "fnExactLeastArmy", fn := fun _ => fun
  | [d] => { results := [.lit (.bool false)], args := [d] }
  | _ => none }
def FnExactLeastArmyWrongFalsely : Prop := fnExactLeastArmyRow.holds Try.pinned (OpenSpec.ofChange fnExactLeastArmyWrong)

/-- 'laws.FnExactMayReach': WHATEVER THE INPUT: true; the input reads as it did. -/
def fnExactMayReachSpec : ChangeSpec := { name := "fnExactMayReach", fn := fun _ => fun
  | [d1, d2] => { results := [.lit (.bool true)], args := [d1, d2] }
  | _ => none }
def fnExactMayReachRow : OpenClaim := { program := "ytjcjmgfecmgmjaa", sum := "dd889190e3d490639bdf05c9b87d88e4487780b32040bb805f628aa2666d9b1a", func := "loop.example/g03302/laws.FnExactMayReach", spec := "fnExactMayReach", apart := false }
def FnExactMayReachSaid : Prop := fnExactMayReachRow.holds Try.pinned (OpenSpec.ofChange fnExactMayReachSpec)

/-- ITS FALSE NEIGHBOUR: 'it returns false'. Refute it at one input. -/
def fnExactMayReachWrong : ChangeSpec := { name := "fnExactMayReach", fn := fun _ => fun
  | [d1, d2] => { results := [.lit (.bool false)], args := [d1, d2] }
  | _ => none }
def FnExactMayReachWrongFalsely : Prop := fnExactMayReachRow.holds Try.pinned (OpenSpec.ofChange fnExactMayReachWrong)

/- THE SECOND FORM. 'bulk': how many values and letters a reading holds, each counted each time it is reached (what is shared counts as often as it is met; a slice's spare places count too). A statement '..UptoSaid' is the law's where the arguments, and the package variables that the reading takes, are together of bulk at most 1048576: NARROWER than '..Said'. Prove '..Said' where nothing that the law and all that it calls make is longer than what came in: it says more and counts as full. Else prove '..UptoSaid'. A law counts once. -/
mutual
def uptoBulk {H : Type} : DataW H → Nat
  | .lit (.string bytes) => bytes.length + 1
  | .lit _ => 1
  | .nil => 1
  | .ptr d => uptoBulk d + 1
  | .slice elems spare => uptoBulkAll elems + uptoBulkAll spare + 1
  | .agg parts => uptoBulkAll parts + 1
  | .iface _ d => uptoBulk d + 1
  | .map entries => uptoBulkEntries entries + 1
  | .held _ => 1
def uptoBulkAll {H : Type} : List (DataW H) → Nat
  | [] => 0
  | d :: r => uptoBulk d + uptoBulkAll r
def uptoBulkEntries {H : Type} : List (Lit × DataW H) → Nat
  | [] => 0
  | x :: r => uptoBulkEntry x + uptoBulkEntries r
def uptoBulkEntry {H : Type} : Lit × DataW H → Nat
  | (.string bytes, d) => bytes.length + uptoBulk d + 1
  | (_, d) => uptoBulk d + 1
 end
def uptoSmall : (H : Type) → List (DataW H) → Bool := fun _ ds => decide (uptoBulkAll ds ≤ 1048576)
def OpenSpec.upto (s : _root_.Go.ChangeSpec) : _root_.Go.OpenSpec := { _root_.Go.OpenSpec.ofChange s with cond := some uptoSmall }

/-- 'laws.FnArmies', WHERE WHAT IT READS IS OF BULK AT MOST 1048576: true; the input reads as it did. -/
def fnArmiesUptoRow : OpenClaim := { program := "ytjcjmgfecmgmjaa", sum := "dd889190e3d490639bdf05c9b87d88e4487780b32040bb805f628aa2666d9b1a", func := "loop.example/g03302/laws.FnArmies", spec := "fnArmies", apart := false, narrowed := true }
def FnArmiesUptoSaid : Prop := fnArmiesUptoRow.holds Try.pinned (OpenSpec.upto fnArmiesSpec)

/-- 'laws.FnExactWeightsOk', WHERE WHAT IT READS IS OF BULK AT MOST 1048576: true; the input reads as it did. -/
def fnExactWeightsOkUptoRow : OpenClaim := { program := "ytjcjmgfecmgmjaa", sum := "dd889190e3d490639bdf05c9b87d88e4487780b32040bb805f628aa2666d9b1a", func := "loop.example/g03302/laws.FnExactWeightsOk", spec := "fnExactWeightsOk", apart := false, narrowed := true }
def FnExactWeightsOkUptoSaid : Prop := fnExactWeightsOkUptoRow.holds Try.pinned (OpenSpec.upto fnExactWeightsOkSpec)

/-- 'laws.FnExactWeightTo', WHERE WHAT IT READS IS OF BULK AT MOST 1048576: true; the input reads as it did. -/
def fnExactWeightToUptoRow : OpenClaim := { program := "ytjcjmgfecmgmjaa", sum := "dd889190e3d490639bdf05c9b87d88e4487780b32040bb805f628aa2666d9b1a", func := "loop.example/g03302/laws.FnExactWeightTo", spec := "fnExactWeightTo", apart := false, narrowed := true }
def FnExactWeightToUptoSaid : Prop := fnExactWeightToUptoRow.holds Try.pinned (OpenSpec.upto fnExactWeightToSpec)

/-- 'laws.FnExactClassWeights', WHERE WHAT IT READS IS OF BULK AT MOST 1048576: true; the input reads as it did. -/
def fnExactClassWeightsUptoRow : OpenClaim := { program := "ytjcjmgfecmgmjaa", sum := "dd889190e3d490639bdf05c9b87d88e4487780b32040bb805f628aa2666d9b1a", func := "loop.example/g03302/laws.FnExactClassWeights", spec := "fnExactClassWeights", apart := false, narrowed := true }
def FnExactClassWeightsUptoSaid : Prop := fnExactClassWeightsUptoRow.holds Try.pinned (OpenSpec.upto fnExactClassWeightsSpec)

/-- 'laws.FnExactArmyOk', WHERE WHAT IT READS IS OF BULK AT MOST 1048576: true; the input reads as it did. -/
def fnExactArmyOkUptoRow : OpenClaim := { program := "ytjcjmgfecmgmjaa", sum := "dd889190e3d490639bdf05c9b87d88e4487780b32040bb805f628aa2666d9b1a", func := "loop.example/g03302/laws.FnExactArmyOk", spec := "fnExactArmyOk", apart := false, narrowed := true }
def FnExactArmyOkUptoSaid : Prop := fnExactArmyOkUptoRow.holds Try.pinned (OpenSpec.upto fnExactArmyOkSpec)

/-- 'laws.FnExactColumnWeights', WHERE WHAT IT READS IS OF BULK AT MOST 1048576: true; the input reads as it did. -/
def fnExactColumnWeightsUptoRow : OpenClaim := { program := "ytjcjmgfecmgmjaa", sum := "dd889190e3d490639bdf05c9b87d88e4487780b32040bb805f628aa2666d9b1a", func := "loop.example/g03302/laws.FnExactColumnWeights", spec := "fnExactColumnWeights", apart := false, narrowed := true }
def FnExactColumnWeightsUptoSaid : Prop := fnExactColumnWeightsUptoRow.holds Try.pinned (OpenSpec.upto fnExactColumnWeightsSpec)

/-- 'laws.FnExactRowWeights', WHERE WHAT IT READS IS OF BULK AT MOST 1048576: true; the input reads as it did. -/
def fnExactRowWeightsUptoRow : OpenClaim := { program := "ytjcjmgfecmgmjaa", sum := "dd889190e3d490639bdf05c9b87d88e4487780b32040bb805f628aa2666d9b1a", func := "loop.example/g03302/laws.FnExactRowWeights", spec := "fnExactRowWeights", apart := false, narrowed := true }
def FnExactRowWeightsUptoSaid : Prop := fnExactRowWeightsUptoRow.holds Try.pinned (OpenSpec.upto fnExactRowWeightsSpec)

/-- 'laws.FnExactSumOf', WHERE WHAT IT READS IS OF BULK AT MOST 1048576: true; the input reads as it did. -/
def fnExactSumOfUptoRow : OpenClaim := { program := "ytjcjmgfecmgmjaa", sum := "dd889190e3d490639bdf05c9b87d88e4487780b32040bb805f628aa2666d9b1a", func := "loop.example/g03302/laws.FnExactSumOf", spec := "fnExactSumOf", apart := false, narrowed := true }
def FnExactSumOfUptoSaid : Prop := fnExactSumOfUptoRow.holds Try.pinned (OpenSpec.upto fnExactSumOfSpec)

/-- 'laws.FnExactAddWeights', WHERE WHAT IT READS IS OF BULK AT MOST 1048576: true; the input reads as it did. -/
def fnExactAddWeightsUptoRow : OpenClaim := { program := "ytjcjmgfecmgmjaa", sum := "dd889190e3d490639bdf05c9b87d88e4487780b32040bb805f628aa2666d9b1a", func := "loop.example/g03302/laws.FnExactAddWeights", spec := "fnExactAddWeights", apart := false, narrowed := true }
def FnExactAddWeightsUptoSaid : Prop := fnExactAddWeightsUptoRow.holds Try.pinned (OpenSpec.upto fnExactAddWeightsSpec)

/-- 'laws.FnExactArmySum', WHERE WHAT IT READS IS OF BULK AT MOST 1048576: true; the input reads as it did. -/
def fnExactArmySumUptoRow : OpenClaim := { program := "ytjcjmgfecmgmjaa", sum := "dd889190e3d490639bdf05c9b87d88e4487780b32040bb805f628aa2666d9b1a", func := "loop.example/g03302/laws.FnExactArmySum", spec := "fnExactArmySum", apart := false, narrowed := true }
def FnExactArmySumUptoSaid : Prop := fnExactArmySumUptoRow.holds Try.pinned (OpenSpec.upto fnExactArmySumSpec)

/-- 'laws.FnExactLeastArmy', WHERE WHAT IT READS IS OF BULK AT MOST 1048576: true; the input reads as it did. -/
def fnExactLeastArmyUptoRow : OpenClaim := { program := "ytjcjmgfecmgmjaa", sum := "dd889190e3d490639bdf05c9b87d88e4487780b32040bb805f628aa2666d9b1a", func := "loop.example/g03302/laws.FnExactLeastArmy", spec := "fnExactLeastArmy", apart := false, narrowed := true }
def FnExactLeastArmyUptoSaid : Prop := fnExactLeastArmyUptoRow.holds Try.pinned (OpenSpec.upto fnExactLeastArmySpec)

/-- 'laws.FnExactMayReach', WHERE WHAT IT READS IS OF BULK AT MOST 1048576: true; the input reads as it did. -/
def fnExactMayReachUptoRow : OpenClaim := { program := "ytjcjmgfecmgmjaa", sum := "dd889190e3d490639bdf05c9b87d88e4487780b32040bb805f628aa2666d9b1a", func := "loop.example/g03302/laws.FnExactMayReach", spec := "fnExactMayReach", apart := false, narrowed := true }
def FnExactMayReachUptoSaid : Prop := fnExactMayReachUptoRow.holds Try.pinned (OpenSpec.upto fnExactMayReachSpec)

end Rows
end Go.Proofs.Ytjcjmgfecmgmjaa
