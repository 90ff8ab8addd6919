/-
  No cell of these rows narrows 'for every input' (looked for: loops, veiled, ifaces, maps, wideKeys, modest, calm, conditions, laid).
  DERIVED. THE GIVEN ROWS OF THIS SEAT. 15 by the template 'for every input the law returns true; each argument reads behind the call as it read before'; 0 by the template 'total and deterministic' (their statements: YtagdeaiboiomfaaTotals.lean).
  GIVEN WITH THE SEED: the statements are not yours to turn. If you find one false, say at which input.
  Laid BY PROGRAM, IN A SANDBOX (cutbox-rows.mjs): the forced cells as the released guide's own fill.sh prints them over the translation 7b397ff3482c49c8… (all of the seat's roots in one cut). By AI agents, Wed Nov 11 2026. No macro, syntax, notation, axiom, sorry.
-/
import Derived.Test.YtagdeaiboiomfaaChecked
import GoSem.Claim
import GoSem.ClaimJoined
import GoSem.ClaimMapViews
import Derived.JoinedTies
import Derived.KernelRfl
namespace Go.Proofs.Ytagdeaiboiomfaa
/- THE CELL 'sum', in the pinned program and in every row, IS THE sha256 OF THE DUMP (.gsa) THAT YtagdeaiboiomfaaProg.lean LOADS. Nothing in Lean hashes anything: it is a label: what it is worth is what the hold of that sum in a sandbox is worth. -/
noncomputable def Try.pinned : Pinned := { name := "ytagdeaiboiomfaa", sum := "7b397ff3482c49c86cdda4726321883d4ad975116e3cbca0bf8b35564a3a53d2", checked := Try.checked }
namespace Rows
def none {H : Type} : Left H := { results := [], args := [] }

/-- 'laws.FnExactCanReach': WHATEVER THE INPUT: true; the input reads as it did. -/
def fnExactCanReachSpec : ChangeSpec := { name := "fnExactCanReach", fn := fun _ => fun
  | [d1, d2, d3] => { results := [.lit (.bool true)], args := [d1, d2, d3] }
  | _ => none }
def fnExactCanReachRow : OpenClaim := { program := "ytagdeaiboiomfaa", sum := "7b397ff3482c49c86cdda4726321883d4ad975116e3cbca0bf8b35564a3a53d2", func := "loop.example/g03302/laws.FnExactCanReach", spec := "fnExactCanReach", apart := false }
def FnExactCanReachSaid : Prop := fnExactCanReachRow.holds Try.pinned (OpenSpec.ofChange fnExactCanReachSpec)

/-- ITS FALSE NEIGHBOUR: 'it returns false'. Refute it at one input. -/
def fnExactCanReachWrong : ChangeSpec := { name := "fnExactCanReach", fn := fun _ => fun
  | [d1, d2, d3] => { results := [.lit (.bool false)], args := [d1, d2, d3] }
  | _ => none }
def FnExactCanReachWrongFalsely : Prop := fnExactCanReachRow.holds Try.pinned (OpenSpec.ofChange fnExactCanReachWrong)

/-- 'laws.FnExactCountReach': WHATEVER THE INPUT: true; the input reads as it did. -/
def fnExactCountReachSpec : ChangeSpec := { name := "fnExactCountReach", fn := fun _ => fun
  | [d1, d2] => { results := [.lit (.bool true)], args := [d1, d2] }
  | _ => none }
def fnExactCountReachRow : OpenClaim := { program := "ytagdeaiboiomfaa", sum := "7b397ff3482c49c86cdda4726321883d4ad975116e3cbca0bf8b35564a3a53d2", func := "loop.example/g03302/laws.FnExactCountReach", spec := "fnExactCountReach", apart := false }
def FnExactCountReachSaid : Prop := fnExactCountReachRow.holds Try.pinned (OpenSpec.ofChange fnExactCountReachSpec)

/-- ITS FALSE NEIGHBOUR: 'it returns false'. Refute it at one input. -/
def fnExactCountReachWrong : ChangeSpec := { name := "fnExactCountReach", fn := fun _ => fun
  | [d1, d2] => { results := [.lit (.bool false)], args := [d1, d2] }
  | _ => none }
def FnExactCountReachWrongFalsely : Prop := fnExactCountReachRow.holds Try.pinned (OpenSpec.ofChange fnExactCountReachWrong)

/-- 'laws.FnExactCountBack': WHATEVER THE INPUT: true; the input reads as it did. -/
def fnExactCountBackSpec : ChangeSpec := { name := "fnExactCountBack", fn := fun _ => fun
  | [d1, d2] => { results := [.lit (.bool true)], args := [d1, d2] }
  | _ => none }
def fnExactCountBackRow : OpenClaim := { program := "ytagdeaiboiomfaa", sum := "7b397ff3482c49c86cdda4726321883d4ad975116e3cbca0bf8b35564a3a53d2", func := "loop.example/g03302/laws.FnExactCountBack", spec := "fnExactCountBack", apart := false }
def FnExactCountBackSaid : Prop := fnExactCountBackRow.holds Try.pinned (OpenSpec.ofChange fnExactCountBackSpec)

/-- ITS FALSE NEIGHBOUR: 'it returns false'. Refute it at one input. -/
def fnExactCountBackWrong : ChangeSpec := { name := "fnExactCountBack", fn := fun _ => fun
  | [d1, d2] => { results := [.lit (.bool false)], args := [d1, d2] }
  | _ => none }
def FnExactCountBackWrongFalsely : Prop := fnExactCountBackRow.holds Try.pinned (OpenSpec.ofChange fnExactCountBackWrong)

/-- 'laws.FnExactReachOf': WHATEVER THE INPUT: true; the input reads as it did. -/
def fnExactReachOfSpec : ChangeSpec := { name := "fnExactReachOf", fn := fun _ => fun
  | [d1, d2] => { results := [.lit (.bool true)], args := [d1, d2] }
  | _ => none }
def fnExactReachOfRow : OpenClaim := { program := "ytagdeaiboiomfaa", sum := "7b397ff3482c49c86cdda4726321883d4ad975116e3cbca0bf8b35564a3a53d2", func := "loop.example/g03302/laws.FnExactReachOf", spec := "fnExactReachOf", apart := false }
def FnExactReachOfSaid : Prop := fnExactReachOfRow.holds Try.pinned (OpenSpec.ofChange fnExactReachOfSpec)

/-- ITS FALSE NEIGHBOUR: 'it returns false'. Refute it at one input. -/
def fnExactReachOfWrong : ChangeSpec := { name := "fnExactReachOf", fn := fun _ => fun
  | [d1, d2] => { results := [.lit (.bool false)], args := [d1, d2] }
  | _ => none }
def FnExactReachOfWrongFalsely : Prop := fnExactReachOfRow.holds Try.pinned (OpenSpec.ofChange fnExactReachOfWrong)

/-- 'laws.FnExactBackOf': WHATEVER THE INPUT: true; the input reads as it did. -/
def fnExactBackOfSpec : ChangeSpec := { name := "fnExactBackOf", fn := fun _ => fun
  | [d1, d2] => { results := [.lit (.bool true)], args := [d1, d2] }
  | _ => none }
def fnExactBackOfRow : OpenClaim := { program := "ytagdeaiboiomfaa", sum := "7b397ff3482c49c86cdda4726321883d4ad975116e3cbca0bf8b35564a3a53d2", func := "loop.example/g03302/laws.FnExactBackOf", spec := "fnExactBackOf", apart := false }
def FnExactBackOfSaid : Prop := fnExactBackOfRow.holds Try.pinned (OpenSpec.ofChange fnExactBackOfSpec)

/-- ITS FALSE NEIGHBOUR: 'it returns false'. Refute it at one input. -/
def fnExactBackOfWrong : ChangeSpec := { name := "fnExactBackOf", fn := fun _ => fun
  | [d1, d2] => { results := [.lit (.bool false)], args := [d1, d2] }
  | _ => none }
def FnExactBackOfWrongFalsely : Prop := fnExactBackOfRow.holds Try.pinned (OpenSpec.ofChange fnExactBackOfWrong)

/-- 'laws.FnExactStartsFor': WHATEVER THE INPUT: true; the input reads as it did. -/
def fnExactStartsForSpec : ChangeSpec := { name := "fnExactStartsFor", fn := fun _ => fun
  | [d1, d2] => { results := [.lit (.bool true)], args := [d1, d2] }
  | _ => none }
def fnExactStartsForRow : OpenClaim := { program := "ytagdeaiboiomfaa", sum := "7b397ff3482c49c86cdda4726321883d4ad975116e3cbca0bf8b35564a3a53d2", func := "loop.example/g03302/laws.FnExactStartsFor", spec := "fnExactStartsFor", apart := false }
def FnExactStartsForSaid : Prop := fnExactStartsForRow.holds Try.pinned (OpenSpec.ofChange fnExactStartsForSpec)

/-- ITS FALSE NEIGHBOUR: 'it returns false'. Refute it at one input. -/
def fnExactStartsForWrong : ChangeSpec := { name := "fnExactStartsFor", fn := fun _ => fun
  | [d1, d2] => { results := [.lit (.bool false)], args := [d1, d2] }
  | _ => none }
def FnExactStartsForWrongFalsely : Prop := fnExactStartsForRow.holds Try.pinned (OpenSpec.ofChange fnExactStartsForWrong)

/-- 'laws.FnExactJumpsBetween': WHATEVER THE INPUT: true; the input reads as it did. -/
def fnExactJumpsBetweenSpec : ChangeSpec := { name := "fnExactJumpsBetween", fn := fun _ => fun
  | [d1, d2, d3] => { results := [.lit (.bool true)], args := [d1, d2, d3] }
  | _ => none }
def fnExactJumpsBetweenRow : OpenClaim := { program := "ytagdeaiboiomfaa", sum := "7b397ff3482c49c86cdda4726321883d4ad975116e3cbca0bf8b35564a3a53d2", func := "loop.example/g03302/laws.FnExactJumpsBetween", spec := "fnExactJumpsBetween", apart := false }
def FnExactJumpsBetweenSaid : Prop := fnExactJumpsBetweenRow.holds Try.pinned (OpenSpec.ofChange fnExactJumpsBetweenSpec)

/-- ITS FALSE NEIGHBOUR: 'it returns false'. Refute it at one input. -/
def fnExactJumpsBetweenWrong : ChangeSpec := { name := "fnExactJumpsBetween", fn := fun _ => fun
  | [d1, d2, d3] => { results := [.lit (.bool false)], args := [d1, d2, d3] }
  | _ => none }
def FnExactJumpsBetweenWrongFalsely : Prop := fnExactJumpsBetweenRow.holds Try.pinned (OpenSpec.ofChange fnExactJumpsBetweenWrong)

/-- 'laws.FnExactIsSpoiled': WHATEVER THE INPUT: true; the input reads as it did. -/
def fnExactIsSpoiledSpec : ChangeSpec := { name := "fnExactIsSpoiled", fn := fun _ => fun
  | [d1, d2, d3, d4] => { results := [.lit (.bool true)], args := [d1, d2, d3, d4] }
  | _ => none }
def fnExactIsSpoiledRow : OpenClaim := { program := "ytagdeaiboiomfaa", sum := "7b397ff3482c49c86cdda4726321883d4ad975116e3cbca0bf8b35564a3a53d2", func := "loop.example/g03302/laws.FnExactIsSpoiled", spec := "fnExactIsSpoiled", apart := false }
def FnExactIsSpoiledSaid : Prop := fnExactIsSpoiledRow.holds Try.pinned (OpenSpec.ofChange fnExactIsSpoiledSpec)

/-- ITS FALSE NEIGHBOUR: 'it returns false'. Refute it at one input. -/
def fnExactIsSpoiledWrong : ChangeSpec := { name := "fnExactIsSpoiled", fn := fun _ => fun
  | [d1, d2, d3, d4] => { results := [.lit (.bool false)], args := [d1, d2, d3, d4] }
  | _ => none }
def FnExactIsSpoiledWrongFalsely : Prop := fnExactIsSpoiledRow.holds Try.pinned (OpenSpec.ofChange fnExactIsSpoiledWrong)

/-- 'laws.FnExactFinalsOf': WHATEVER THE INPUT: true; the input reads as it did. -/
def fnExactFinalsOfSpec : ChangeSpec := { name := "fnExactFinalsOf", fn := fun _ => fun
  | [d1, d2] => { results := [.lit (.bool true)], args := [d1, d2] }
  | _ => none }
def fnExactFinalsOfRow : OpenClaim := { program := "ytagdeaiboiomfaa", sum := "7b397ff3482c49c86cdda4726321883d4ad975116e3cbca0bf8b35564a3a53d2", func := "loop.example/g03302/laws.FnExactFinalsOf", spec := "fnExactFinalsOf", apart := false }
def FnExactFinalsOfSaid : Prop := fnExactFinalsOfRow.holds Try.pinned (OpenSpec.ofChange fnExactFinalsOfSpec)

/-- ITS FALSE NEIGHBOUR: 'it returns false'. Refute it at one input. -/
def fnExactFinalsOfWrong : ChangeSpec := { name := "fnExactFinalsOf", fn := fun _ => fun
  | [d1, d2] => { results := [.lit (.bool false)], args := [d1, d2] }
  | _ => none }
def FnExactFinalsOfWrongFalsely : Prop := fnExactFinalsOfRow.holds Try.pinned (OpenSpec.ofChange fnExactFinalsOfWrong)

/-- 'laws.FnExactFewestLeft': WHATEVER THE INPUT: true; the input reads as it did. -/
def fnExactFewestLeftSpec : ChangeSpec := { name := "fnExactFewestLeft", fn := fun _ => fun
  | [d1, d2] => { results := [.lit (.bool true)], args := [d1, d2] }
  | _ => none }
def fnExactFewestLeftRow : OpenClaim := { program := "ytagdeaiboiomfaa", sum := "7b397ff3482c49c86cdda4726321883d4ad975116e3cbca0bf8b35564a3a53d2", func := "loop.example/g03302/laws.FnExactFewestLeft", spec := "fnExactFewestLeft", apart := false }
def FnExactFewestLeftSaid : Prop := fnExactFewestLeftRow.holds Try.pinned (OpenSpec.ofChange fnExactFewestLeftSpec)

/-- ITS FALSE NEIGHBOUR: 'it returns false'. Refute it at one input. -/
def fnExactFewestLeftWrong : ChangeSpec := { name := "fnExactFewestLeft", fn := fun _ => fun
  | [d1, d2] => { results := [.lit (.bool false)], args := [d1, d2] }
  | _ => none }
def FnExactFewestLeftWrongFalsely : Prop := fnExactFewestLeftRow.holds Try.pinned (OpenSpec.ofChange fnExactFewestLeftWrong)

/-- 'laws.FnExactSolvableHoles': WHATEVER THE INPUT: true; the input reads as it did. -/
def fnExactSolvableHolesSpec : ChangeSpec := { name := "fnExactSolvableHoles", fn := fun _ => fun
  | [d] => { results := [.lit (.bool true)], args := [d] }
  | _ => none }
def fnExactSolvableHolesRow : OpenClaim := { program := "ytagdeaiboiomfaa", sum := "7b397ff3482c49c86cdda4726321883d4ad975116e3cbca0bf8b35564a3a53d2", func := "loop.example/g03302/laws.FnExactSolvableHoles", spec := "fnExactSolvableHoles", apart := false }
def FnExactSolvableHolesSaid : Prop := fnExactSolvableHolesRow.holds Try.pinned (OpenSpec.ofChange fnExactSolvableHolesSpec)

/-- ITS FALSE NEIGHBOUR: 'it returns false'. Refute it at one input. -/
def fnExactSolvableHolesWrong : ChangeSpec := { name := "fnExactSolvableHoles", fn := fun _ => fun
  | [d] => { results := [.lit (.bool false)], args := [d] }
  | _ => none }
def FnExactSolvableHolesWrongFalsely : Prop := fnExactSolvableHolesRow.holds Try.pinned (OpenSpec.ofChange fnExactSolvableHolesWrong)

/-- 'laws.FnExactWayTo': WHATEVER THE INPUT: true; the input reads as it did. -/
def fnExactWayToSpec : ChangeSpec := { name := "fnExactWayTo", fn := fun _ => fun
  | [d1, d2, d3] => { results := [.lit (.bool true)], args := [d1, d2, d3] }
  | _ => none }
def fnExactWayToRow : OpenClaim := { program := "ytagdeaiboiomfaa", sum := "7b397ff3482c49c86cdda4726321883d4ad975116e3cbca0bf8b35564a3a53d2", func := "loop.example/g03302/laws.FnExactWayTo", spec := "fnExactWayTo", apart := false }
def FnExactWayToSaid : Prop := fnExactWayToRow.holds Try.pinned (OpenSpec.ofChange fnExactWayToSpec)

/-- ITS FALSE NEIGHBOUR: 'it returns false'. Refute it at one input. -/
def fnExactWayToWrong : ChangeSpec := { name := "fnExactWayTo", fn := fun _ => fun
  | [d1, d2, d3] => { results := [.lit (.bool false)], args := [d1, d2, d3] }
  | _ => none }
def FnExactWayToWrongFalsely : Prop := fnExactWayToRow.holds Try.pinned (OpenSpec.ofChange fnExactWayToWrong)

/-- 'laws.FnExactGoodJumps': WHATEVER THE INPUT: true; the input reads as it did. -/
def fnExactGoodJumpsSpec : ChangeSpec := { name := "fnExactGoodJumps", fn := fun _ => fun
  | [d1, d2, d3] => { results := [.lit (.bool true)], args := [d1, d2, d3] }
  | _ => none }
def fnExactGoodJumpsRow : OpenClaim := { program := "ytagdeaiboiomfaa", sum := "7b397ff3482c49c86cdda4726321883d4ad975116e3cbca0bf8b35564a3a53d2", func := "loop.example/g03302/laws.FnExactGoodJumps", spec := "fnExactGoodJumps", apart := false }
def FnExactGoodJumpsSaid : Prop := fnExactGoodJumpsRow.holds Try.pinned (OpenSpec.ofChange fnExactGoodJumpsSpec)

/-- ITS FALSE NEIGHBOUR: 'it returns false'. Refute it at one input. -/
def fnExactGoodJumpsWrong : ChangeSpec := { name := "fnExactGoodJumps", fn := fun _ => fun
  | [d1, d2, d3] => { results := [.lit (.bool false)], args := [d1, d2, d3] }
  | _ => none }
def FnExactGoodJumpsWrongFalsely : Prop := fnExactGoodJumpsRow.holds Try.pinned (OpenSpec.ofChange fnExactGoodJumpsWrong)

/-- 'laws.FnExactPairsOf': WHATEVER THE INPUT: true; the input reads as it did. -/
def fnExactPairsOfSpec : ChangeSpec := { name := "fnExactPairsOf", fn := fun _ => fun
  | [d] => { results := [.lit (.bool true)], args := [d] }
  | _ => none }
def fnExactPairsOfRow : OpenClaim := { program := "ytagdeaiboiomfaa", sum := "7b397ff3482c49c86cdda4726321883d4ad975116e3cbca0bf8b35564a3a53d2", func := "loop.example/g03302/laws.FnExactPairsOf", spec := "fnExactPairsOf", apart := false }
def FnExactPairsOfSaid : Prop := fnExactPairsOfRow.holds Try.pinned (OpenSpec.ofChange fnExactPairsOfSpec)

/-- ITS FALSE NEIGHBOUR: 'it returns false'. Refute it at one input. -/
def fnExactPairsOfWrong : ChangeSpec := { name := "fnExactPairsOf", fn := fun _ => fun
  | [d] => { results := [.lit (.bool false)], args := [d] }
  | _ => none }
def FnExactPairsOfWrongFalsely : Prop := fnExactPairsOfRow.holds Try.pinned (OpenSpec.ofChange fnExactPairsOfWrong)

/-- 'laws.FnExactWayToSingle': WHATEVER THE INPUT: true; the input reads as it did. -/
def fnExactWayToSingleSpec : ChangeSpec := { name := "fnExactWayToSingle", fn := fun _ => fun
  | [d1, d2] => { results := [.lit (.bool true)], args := [d1, d2] }
  | _ => none }
def fnExactWayToSingleRow : OpenClaim := { program := "ytagdeaiboiomfaa", sum := "7b397ff3482c49c86cdda4726321883d4ad975116e3cbca0bf8b35564a3a53d2", func := "loop.example/g03302/laws.FnExactWayToSingle", spec := "fnExactWayToSingle", apart := false }
def FnExactWayToSingleSaid : Prop := fnExactWayToSingleRow.holds Try.pinned (OpenSpec.ofChange fnExactWayToSingleSpec)

/-- ITS FALSE NEIGHBOUR: 'it returns false'. Refute it at one input. -/
def fnExactWayToSingleWrong : ChangeSpec := { name := "fnExactWayToSingle", fn := fun _ => fun
  | [d1, d2] => { results := [.lit (.bool false)], args := [d1, d2] }
  | _ => none }
def FnExactWayToSingleWrongFalsely : Prop := fnExactWayToSingleRow.holds Try.pinned (OpenSpec.ofChange fnExactWayToSingleWrong)

/- THE SECOND FORM. 'bulk': how many values and letters a reading holds, each counted each time it is reached (what is shared counts as often as it is met; a slice's spare places count too). A statement '..UptoSaid' is the law's where the arguments, and the package variables that the reading takes, are together of bulk at most 1048576: NARROWER than '..Said'. Prove '..Said' where nothing that the law and all that it calls make is longer than what came in: it says more and counts as full. Else prove '..UptoSaid'. A law counts once. -/
mutual
def uptoBulk {H : Type} : DataW H → Nat
  | .lit (.string bytes) => bytes.length + 1
  | .lit _ => 1
  | .nil => 1
  | .ptr d => uptoBulk d + 1
  | .slice elems spare => uptoBulkAll elems + uptoBulkAll spare + 1
  | .agg parts => uptoBulkAll parts + 1
  | .iface _ d => uptoBulk d + 1
  | .map entries => uptoBulkEntries entries + 1
  | .held _ => 1
def uptoBulkAll {H : Type} : List (DataW H) → Nat
  | [] => 0
  | d :: r => uptoBulk d + uptoBulkAll r
def uptoBulkEntries {H : Type} : List (Lit × DataW H) → Nat
  | [] => 0
  | x :: r => uptoBulkEntry x + uptoBulkEntries r
def uptoBulkEntry {H : Type} : Lit × DataW H → Nat
  | (.string bytes, d) => bytes.length + uptoBulk d + 1
  | (_, d) => uptoBulk d + 1
 end
def uptoSmall : (H : Type) → List (DataW H) → Bool := fun _ ds => decide (uptoBulkAll ds ≤ 1048576)
def OpenSpec.upto (s : _root_.Go.ChangeSpec) : _root_.Go.OpenSpec := { _root_.Go.OpenSpec.ofChange s with cond := some uptoSmall }

/-- 'laws.FnExactCanReach', WHERE WHAT IT READS IS OF BULK AT MOST 1048576: true; the input reads as it did. -/
def fnExactCanReachUptoRow : OpenClaim := { program := "ytagdeaiboiomfaa", sum := "7b397ff3482c49c86cdda4726321883d4ad975116e3cbca0bf8b35564a3a53d2", func := "loop.example/g03302/laws.FnExactCanReach", spec := "fnExactCanReach", apart := false, narrowed := true }
def FnExactCanReachUptoSaid : Prop := fnExactCanReachUptoRow.holds Try.pinned (OpenSpec.upto fnExactCanReachSpec)

/-- 'laws.FnExactCountReach', WHERE WHAT IT READS IS OF BULK AT MOST 1048576: true; the input reads as it did. -/
def fnExactCountReachUptoRow : OpenClaim := { program := "ytagdeaiboiomfaa", sum := "7b397ff3482c49c86cdda4726321883d4ad975116e3cbca0bf8b35564a3a53d2", func := "loop.example/g03302/laws.FnExactCountReach", spec := "fnExactCountReach", apart := false, narrowed := true }
def FnExactCountReachUptoSaid : Prop := fnExactCountReachUptoRow.holds Try.pinned (OpenSpec.upto fnExactCountReachSpec)

/-- 'laws.FnExactCountBack', WHERE WHAT IT READS IS OF BULK AT MOST 1048576: true; the input reads as it did. -/
def fnExactCountBackUptoRow : OpenClaim := { program := "ytagdeaiboiomfaa", sum := "7b397ff3482c49c86cdda4726321883d4ad975116e3cbca0bf8b35564a3a53d2", func := "loop.example/g03302/laws.FnExactCountBack", spec := "fnExactCountBack", apart := false, narrowed := true }
def FnExactCountBackUptoSaid : Prop := fnExactCountBackUptoRow.holds Try.pinned (OpenSpec.upto fnExactCountBackSpec)

/-- 'laws.FnExactReachOf', WHERE WHAT IT READS IS OF BULK AT MOST 1048576: true; the input reads as it did. -/
def fnExactReachOfUptoRow : OpenClaim := { program := "ytagdeaiboiomfaa", sum := "7b397ff3482c49c86cdda4726321883d4ad975116e3cbca0bf8b35564a3a53d2", func := "loop.example/g03302/laws.FnExactReachOf", spec := "fnExactReachOf", apart := false, narrowed := true }
def FnExactReachOfUptoSaid : Prop := fnExactReachOfUptoRow.holds Try.pinned (OpenSpec.upto fnExactReachOfSpec)

/-- 'laws.FnExactBackOf', WHERE WHAT IT READS IS OF BULK AT MOST 1048576: true; the input reads as it did. -/
def fnExactBackOfUptoRow : OpenClaim := { program := "ytagdeaiboiomfaa", sum := "7b397ff3482c49c86cdda4726321883d4ad975116e3cbca0bf8b35564a3a53d2", func := "loop.example/g03302/laws.FnExactBackOf", spec := "fnExactBackOf", apart := false, narrowed := true }
def FnExactBackOfUptoSaid : Prop := fnExactBackOfUptoRow.holds Try.pinned (OpenSpec.upto fnExactBackOfSpec)

/-- 'laws.FnExactStartsFor', WHERE WHAT IT READS IS OF BULK AT MOST 1048576: true; the input reads as it did. -/
def fnExactStartsForUptoRow : OpenClaim := { program := "ytagdeaiboiomfaa", sum := "7b397ff3482c49c86cdda4726321883d4ad975116e3cbca0bf8b35564a3a53d2", func := "loop.example/g03302/laws.FnExactStartsFor", spec := "fnExactStartsFor", apart := false, narrowed := true }
def FnExactStartsForUptoSaid : Prop := fnExactStartsForUptoRow.holds Try.pinned (OpenSpec.upto fnExactStartsForSpec)

/-- 'laws.FnExactJumpsBetween', WHERE WHAT IT READS IS OF BULK AT MOST 1048576: true; the input reads as it did. -/
def fnExactJumpsBetweenUptoRow : OpenClaim := { program := "ytagdeaiboiomfaa", sum := "7b397ff3482c49c86cdda4726321883d4ad975116e3cbca0bf8b35564a3a53d2", func := "loop.example/g03302/laws.FnExactJumpsBetween", spec := "fnExactJumpsBetween", apart := false, narrowed := true }
def FnExactJumpsBetweenUptoSaid : Prop := fnExactJumpsBetweenUptoRow.holds Try.pinned (OpenSpec.upto fnExactJumpsBetweenSpec)

/-- 'laws.FnExactIsSpoiled', WHERE WHAT IT READS IS OF BULK AT MOST 1048576: true; the input reads as it did. -/
def fnExactIsSpoiledUptoRow : OpenClaim := { program := "ytagdeaiboiomfaa", sum := "7b397ff3482c49c86cdda4726321883d4ad975116e3cbca0bf8b35564a3a53d2", func := "loop.example/g03302/laws.FnExactIsSpoiled", spec := "fnExactIsSpoiled", apart := false, narrowed := true }
def FnExactIsSpoiledUptoSaid : Prop := fnExactIsSpoiledUptoRow.holds Try.pinned (OpenSpec.upto fnExactIsSpoiledSpec)

/-- 'laws.FnExactFinalsOf', WHERE WHAT IT READS IS OF BULK AT MOST 1048576: true; the input reads as it did. -/
def fnExactFinalsOfUptoRow : OpenClaim := { program := "ytagdeaiboiomfaa", sum := "7b397ff3482c49c86cdda4726321883d4ad975116e3cbca0bf8b35564a3a53d2", func := "loop.example/g03302/laws.FnExactFinalsOf", spec := "fnExactFinalsOf", apart := false, narrowed := true }
def FnExactFinalsOfUptoSaid : Prop := fnExactFinalsOfUptoRow.holds Try.pinned (OpenSpec.upto fnExactFinalsOfSpec)

/-- 'laws.FnExactFewestLeft', WHERE WHAT IT READS IS OF BULK AT MOST 1048576: true; the input reads as it did. -/
def fnExactFewestLeftUptoRow : OpenClaim := { program := "ytagdeaiboiomfaa", sum := "7b397ff3482c49c86cdda4726321883d4ad975116e3cbca0bf8b35564a3a53d2", func := "loop.example/g03302/laws.FnExactFewestLeft", spec := "fnExactFewestLeft", apart := false, narrowed := true }
def FnExactFewestLeftUptoSaid : Prop := fnExactFewestLeftUptoRow.holds Try.pinned (OpenSpec.upto fnExactFewestLeftSpec)

/-- 'laws.FnExactSolvableHoles', WHERE WHAT IT READS IS OF BULK AT MOST 1048576: true; the input reads as it did. -/
def fnExactSolvableHolesUptoRow : OpenClaim := { program := "ytagdeaiboiomfaa", sum := "7b397ff3482c49c86cdda4726321883d4ad975116e3cbca0bf8b35564a3a53d2", func := "loop.example/g03302/laws.FnExactSolvableHoles", spec := "fnExactSolvableHoles", apart := false, narrowed := true }
def FnExactSolvableHolesUptoSaid : Prop := fnExactSolvableHolesUptoRow.holds Try.pinned (OpenSpec.upto fnExactSolvableHolesSpec)

/-- 'laws.FnExactWayTo', WHERE WHAT IT READS IS OF BULK AT MOST 1048576: true; the input reads as it did. -/
def fnExactWayToUptoRow : OpenClaim := { program := "ytagdeaiboiomfaa", sum := "7b397ff3482c49c86cdda4726321883d4ad975116e3cbca0bf8b35564a3a53d2", func := "loop.example/g03302/laws.FnExactWayTo", spec := "fnExactWayTo", apart := false, narrowed := true }
def FnExactWayToUptoSaid : Prop := fnExactWayToUptoRow.holds Try.pinned (OpenSpec.upto fnExactWayToSpec)

/-- 'laws.FnExactGoodJumps', WHERE WHAT IT READS IS OF BULK AT MOST 1048576: true; the input reads as it did. -/
def fnExactGoodJumpsUptoRow : OpenClaim := { program := "ytagdeaiboiomfaa", sum := "7b397ff3482c49c86cdda4726321883d4ad975116e3cbca0bf8b35564a3a53d2", func := "loop.example/g03302/laws.FnExactGoodJumps", spec := "fnExactGoodJumps", apart := false, narrowed := true }
def FnExactGoodJumpsUptoSaid : Prop := fnExactGoodJumpsUptoRow.holds Try.pinned (OpenSpec.upto fnExactGoodJumpsSpec)

/-- 'laws.FnExactPairsOf', WHERE WHAT IT READS IS OF BULK AT MOST 1048576: true; the input reads as it did. -/
def fnExactPairsOfUptoRow : OpenClaim := { program := "ytagdeaiboiomfaa", sum := "7b397ff3482c49c86cdda4726321883d4ad975116e3cbca0bf8b35564a3a53d2", func := "loop.example/g03302/laws.FnExactPairsOf", spec := "fnExactPairsOf", apart := false, narrowed := true }
def FnExactPairsOfUptoSaid : Prop := fnExactPairsOfUptoRow.holds Try.pinned (OpenSpec.upto fnExactPairsOfSpec)

/-- 'laws.FnExactWayToSingle', WHERE WHAT IT READS IS OF BULK AT MOST 1048576: true; the input reads as it did. -/
def fnExactWayToSingleUptoRow : OpenClaim := { program := "ytagdeaiboiomfaa", sum := "7b397ff3482c49c86cdda4726321883d4ad975116e3cbca0bf8b35564a3a53d2", func := "loop.example/g03302/laws.FnExactWayToSingle", spec := "fnExactWayToSingle", apart := false, narrowed := true }
def FnExactWayToSingleUptoSaid : Prop := fnExactWayToSingleUptoRow.holds Try.pinned (OpenSpec.upto fnExactWayToSingleSpec)

end Rows
end Go.Proofs.Ytagdeaiboiomfaa
