/-
  No cell of these rows narrows 'for every input' (looked for: loops, veiled, ifaces, maps, wideKeys, modest, calm, conditions, laid).
  DERIVED. THE GIVEN ROWS OF THIS SEAT. 7 by the template 'for every input the law returns true; each argument reads behind the call as it read before'; 0 by the template 'total and deterministic' (their statements: YtianfakgojmnpaaTotals.lean).
  GIVEN WITH THE SEED: the statements are not yours to turn. If you find one false, say at which input.
  Laid BY PROGRAM, IN A SANDBOX (cutbox-rows.mjs): the forced cells as the released guide's own fill.sh prints them over the translation f8ca992489ffd89d… (all of the seat's roots in one cut). By AI agents, Wed Nov 11 2026. No macro, syntax, notation, axiom, sorry.
-/
import Derived.Test.YtianfakgojmnpaaChecked
import GoSem.Claim
import GoSem.ClaimJoined
import GoSem.ClaimMapViews
import Derived.JoinedTies
import Derived.KernelRfl
namespace Go.Proofs.Ytianfakgojmnpaa
/- THE CELL 'sum', in the pinned program and in every row, IS THE sha256 OF THE DUMP (.gsa) THAT YtianfakgojmnpaaProg.lean LOADS. Nothing in Lean hashes anything: it is a label: what it is worth is what the hold of that sum in a sandbox is worth. -/
noncomputable def Try.pinned : Pinned := { name := "ytianfakgojmnpaa", sum := "f8ca992489ffd89d2be0515b553180ec88b6d45a37c1ed45648c34f7a59633d4", checked := Try.checked }
namespace Rows
def none {H : Type} : Left H := { results := [], args := [] }

/-- 'laws.FnArmies': WHATEVER THE INPUT: true; the input reads as it did. -/
def fnArmiesSpec : ChangeSpec := { name := "fnArmies", fn := fun _ => fun
  | [d] => { results := [.lit (.bool true)], args := [d] }
  | _ => none }
def fnArmiesRow : OpenClaim := { program := "ytianfakgojmnpaa", sum := "f8ca992489ffd89d2be0515b553180ec88b6d45a37c1ed45648c34f7a59633d4", func := "loop.example/g03302/laws.FnArmies", spec := "fnArmies", apart := false }
def FnArmiesSaid : Prop := fnArmiesRow.holds Try.pinned (OpenSpec.ofChange fnArmiesSpec)

/-- ITS FALSE NEIGHBOUR: 'it returns false'. Refute it at one input. -/
def fnArmiesWrong : ChangeSpec := { name := "fnArmies", fn := fun _ => fun
  | [d] => { results := [.lit (.bool false)], args := [d] }
  | _ => none }
def FnArmiesWrongFalsely : Prop := fnArmiesRow.holds Try.pinned (OpenSpec.ofChange fnArmiesWrong)

/-- 'laws.FnExactIsSpoiled': WHATEVER THE INPUT: true; the input reads as it did. -/
def fnExactIsSpoiledSpec : ChangeSpec := { name := "fnExactIsSpoiled", fn := fun _ => fun
  | [d1, d2, d3, d4] => { results := [.lit (.bool true)], args := [d1, d2, d3, d4] }
  | _ => none }
def fnExactIsSpoiledRow : OpenClaim := { program := "ytianfakgojmnpaa", sum := "f8ca992489ffd89d2be0515b553180ec88b6d45a37c1ed45648c34f7a59633d4", func := "loop.example/g03302/laws.FnExactIsSpoiled", spec := "fnExactIsSpoiled", apart := false }
def FnExactIsSpoiledSaid : Prop := fnExactIsSpoiledRow.holds Try.pinned (OpenSpec.ofChange fnExactIsSpoiledSpec)

/-- ITS FALSE NEIGHBOUR: 'it returns false'. Refute it at one input. -/
def fnExactIsSpoiledWrong : ChangeSpec := { name := "fnExactIsSpoiled", fn := fun _ => fun
  | [d1, d2, d3, d4] => { results := [.lit (.bool false)], args := [d1, d2, d3, d4] }
  | _ => none }
def FnExactIsSpoiledWrongFalsely : Prop := fnExactIsSpoiledRow.holds Try.pinned (OpenSpec.ofChange fnExactIsSpoiledWrong)

/-- 'laws.FnExactPairsOf': WHATEVER THE INPUT: true; the input reads as it did. -/
def fnExactPairsOfSpec : ChangeSpec := { name := "fnExactPairsOf", fn := fun _ => fun
  | [d] => { results := [.lit (.bool true)], args := [d] }
  | _ => none }
def fnExactPairsOfRow : OpenClaim := { program := "ytianfakgojmnpaa", sum := "f8ca992489ffd89d2be0515b553180ec88b6d45a37c1ed45648c34f7a59633d4", func := "loop.example/g03302/laws.FnExactPairsOf", spec := "fnExactPairsOf", apart := false }
def FnExactPairsOfSaid : Prop := fnExactPairsOfRow.holds Try.pinned (OpenSpec.ofChange fnExactPairsOfSpec)

/-- ITS FALSE NEIGHBOUR: 'it returns false'. Refute it at one input. -/
def fnExactPairsOfWrong : ChangeSpec := { name := "fnExactPairsOf", fn := fun _ => fun
  | [d] => { results := [.lit (.bool false)], args := [d] }
  | _ => none }
def FnExactPairsOfWrongFalsely : Prop := fnExactPairsOfRow.holds Try.pinned (OpenSpec.ofChange fnExactPairsOfWrong)

/-- 'laws.FnReach': WHATEVER THE INPUT: true; the input reads as it did. -/
def fnReachSpec : ChangeSpec := { name := "fnReach", fn := fun _ => fun
  | [d] => { results := [.lit (.bool true)], args := [d] }
  | _ => none }
def fnReachRow : OpenClaim := { program := "ytianfakgojmnpaa", sum := "f8ca992489ffd89d2be0515b553180ec88b6d45a37c1ed45648c34f7a59633d4", func := "loop.example/g03302/laws.FnReach", spec := "fnReach", apart := false }
def FnReachSaid : Prop := fnReachRow.holds Try.pinned (OpenSpec.ofChange fnReachSpec)

/-- ITS FALSE NEIGHBOUR: 'it returns false'. Refute it at one input. -/
def fnReachWrong : ChangeSpec := { name := "fnReach", fn := fun _ => fun
  | [d] => { results := [.lit (.bool false)], args := [d] }
  | _ => none }
def FnReachWrongFalsely : Prop := fnReachRow.holds Try.pinned (OpenSpec.ofChange fnReachWrong)

/-- 'laws.FnGoldSums': WHATEVER THE INPUT: true; the input reads as it did. -/
def fnGoldSumsSpec : ChangeSpec := { name := "fnGoldSums", fn := fun _ => fun
  | [d] => { results := [.lit (.bool true)], args := [d] }
  | _ => none }
def fnGoldSumsRow : OpenClaim := { program := "ytianfakgojmnpaa", sum := "f8ca992489ffd89d2be0515b553180ec88b6d45a37c1ed45648c34f7a59633d4", func := "loop.example/g03302/laws.FnGoldSums", spec := "fnGoldSums", apart := false }
def FnGoldSumsSaid : Prop := fnGoldSumsRow.holds Try.pinned (OpenSpec.ofChange fnGoldSumsSpec)

/-- ITS FALSE NEIGHBOUR: 'it returns false'. Refute it at one input. -/
def fnGoldSumsWrong : ChangeSpec := { name := "fnGoldSums", fn := fun _ => fun
  | [d] => { results := [.lit (.bool false)], args := [d] }
  | _ => none }
def FnGoldSumsWrongFalsely : Prop := fnGoldSumsRow.holds Try.pinned (OpenSpec.ofChange fnGoldSumsWrong)

/-- 'laws.FnWays': WHATEVER THE INPUT: true; the input reads as it did. -/
def fnWaysSpec : ChangeSpec := { name := "fnWays", fn := fun _ => fun
  | [d] => { results := [.lit (.bool true)], args := [d] }
  | _ => none }
def fnWaysRow : OpenClaim := { program := "ytianfakgojmnpaa", sum := "f8ca992489ffd89d2be0515b553180ec88b6d45a37c1ed45648c34f7a59633d4", func := "loop.example/g03302/laws.FnWays", spec := "fnWays", apart := false }
def FnWaysSaid : Prop := fnWaysRow.holds Try.pinned (OpenSpec.ofChange fnWaysSpec)

/-- ITS FALSE NEIGHBOUR: 'it returns false'. Refute it at one input. -/
def fnWaysWrong : ChangeSpec := { name := "fnWays", fn := fun _ => fun
  | [d] => { results := [.lit (.bool false)], args := [d] }
  | _ => none }
def FnWaysWrongFalsely : Prop := fnWaysRow.holds Try.pinned (OpenSpec.ofChange fnWaysWrong)

/-- 'laws.FnProofs': WHATEVER THE INPUT: true; the input reads as it did. -/
def fnProofsSpec : ChangeSpec := { name := "fnProofs", fn := fun _ => fun
  | [d] => { results := [.lit (.bool true)], args := [d] }
  | _ => none }
def fnProofsRow : OpenClaim := { program := "ytianfakgojmnpaa", sum := "f8ca992489ffd89d2be0515b553180ec88b6d45a37c1ed45648c34f7a59633d4", func := "loop.example/g03302/laws.FnProofs", spec := "fnProofs", apart := false }
def FnProofsSaid : Prop := fnProofsRow.holds Try.pinned (OpenSpec.ofChange fnProofsSpec)

/-- ITS FALSE NEIGHBOUR: 'it returns false'. Refute it at one input. -/
def fnProofsWrong : ChangeSpec := { name := "fnProofs", fn := fun _ => fun
  | [d] => { results := [.lit (.bool false)], args := [d] }
  | _ => none }
def FnProofsWrongFalsely : Prop := fnProofsRow.holds Try.pinned (OpenSpec.ofChange fnProofsWrong)

/- THE SECOND FORM. 'bulk': how many values and letters a reading holds, each counted each time it is reached (what is shared counts as often as it is met; a slice's spare places count too). A statement '..UptoSaid' is the law's where the arguments, and the package variables that the reading takes, are together of bulk at most 1048576: NARROWER than '..Said'. Prove '..Said' where nothing that the law and all that it calls make is longer than what came in: it says more and counts as full. Else prove '..UptoSaid'. A law counts once. -/
mutual
def uptoBulk {H : Type} : DataW H → Nat
  | .lit (.string bytes) => bytes.length + 1
  | .lit _ => 1
  | .nil => 1
  | .ptr d => uptoBulk d + 1
  | .slice elems spare => uptoBulkAll elems + uptoBulkAll spare + 1
  | .agg parts => uptoBulkAll parts + 1
  | .iface _ d => uptoBulk d + 1
  | .map entries => uptoBulkEntries entries + 1
  | .held _ => 1
def uptoBulkAll {H : Type} : List (DataW H) → Nat
  | [] => 0
  | d :: r => uptoBulk d + uptoBulkAll r
def uptoBulkEntries {H : Type} : List (Lit × DataW H) → Nat
  | [] => 0
  | x :: r => uptoBulkEntry x + uptoBulkEntries r
def uptoBulkEntry {H : Type} : Lit × DataW H → Nat
  | (.string bytes, d) => bytes.length + uptoBulk d + 1
  | (_, d) => uptoBulk d + 1
 end
def uptoSmall : (H : Type) → List (DataW H) → Bool := fun _ ds => decide (uptoBulkAll ds ≤ 1048576)
def OpenSpec.upto (s : _root_.Go.ChangeSpec) : _root_.Go.OpenSpec := { _root_.Go.OpenSpec.ofChange s with cond := some uptoSmall }

/-- 'laws.FnArmies', WHERE WHAT IT READS IS OF BULK AT MOST 1048576: true; the input reads as it did. -/
def fnArmiesUptoRow : OpenClaim := { program := "ytianfakgojmnpaa", sum := "f8ca992489ffd89d2be0515b553180ec88b6d45a37c1ed45648c34f7a59633d4", func := "loop.example/g03302/laws.FnArmies", spec := "fnArmies", apart := false, narrowed := true }
def FnArmiesUptoSaid : Prop := fnArmiesUptoRow.holds Try.pinned (OpenSpec.upto fnArmiesSpec)

/-- 'laws.FnExactIsSpoiled', WHERE WHAT IT READS IS OF BULK AT MOST 1048576: true; the input reads as it did. -/
def fnExactIsSpoiledUptoRow : OpenClaim := { program := "ytianfakgojmnpaa", sum := "f8ca992489ffd89d2be0515b553180ec88b6d45a37c1ed45648c34f7a59633d4", func := "loop.example/g03302/laws.FnExactIsSpoiled", spec := "fnExactIsSpoiled", apart := false, narrowed := true }
def FnExactIsSpoiledUptoSaid : Prop := fnExactIsSpoiledUptoRow.holds Try.pinned (OpenSpec.upto fnExactIsSpoiledSpec)

/-- 'laws.FnExactPairsOf', WHERE WHAT IT READS IS OF BULK AT MOST 1048576: true; the input reads as it did. -/
def fnExactPairsOfUptoRow : OpenClaim := { program := "ytianfakgojmnpaa", sum := "f8ca992489ffd89d2be0515b553180ec88b6d45a37c1ed45648c34f7a59633d4", func := "loop.example/g03302/laws.FnExactPairsOf", spec := "fnExactPairsOf", apart := false, narrowed := true }
def FnExactPairsOfUptoSaid : Prop := fnExactPairsOfUptoRow.holds Try.pinned (OpenSpec.upto fnExactPairsOfSpec)

/-- 'laws.FnReach', WHERE WHAT IT READS IS OF BULK AT MOST 1048576: true; the input reads as it did. -/
def fnReachUptoRow : OpenClaim := { program := "ytianfakgojmnpaa", sum := "f8ca992489ffd89d2be0515b553180ec88b6d45a37c1ed45648c34f7a59633d4", func := "loop.example/g03302/laws.FnReach", spec := "fnReach", apart := false, narrowed := true }
def FnReachUptoSaid : Prop := fnReachUptoRow.holds Try.pinned (OpenSpec.upto fnReachSpec)

/-- 'laws.FnGoldSums', WHERE WHAT IT READS IS OF BULK AT MOST 1048576: true; the input reads as it did. -/
def fnGoldSumsUptoRow : OpenClaim := { program := "ytianfakgojmnpaa", sum := "f8ca992489ffd89d2be0515b553180ec88b6d45a37c1ed45648c34f7a59633d4", func := "loop.example/g03302/laws.FnGoldSums", spec := "fnGoldSums", apart := false, narrowed := true }
def FnGoldSumsUptoSaid : Prop := fnGoldSumsUptoRow.holds Try.pinned (OpenSpec.upto fnGoldSumsSpec)

/-- 'laws.FnWays', WHERE WHAT IT READS IS OF BULK AT MOST 1048576: true; the input reads as it did. -/
def fnWaysUptoRow : OpenClaim := { program := "ytianfakgojmnpaa", sum := "f8ca992489ffd89d2be0515b553180ec88b6d45a37c1ed45648c34f7a59633d4", func := "loop.example/g03302/laws.FnWays", spec := "fnWays", apart := false, narrowed := true }
def FnWaysUptoSaid : Prop := fnWaysUptoRow.holds Try.pinned (OpenSpec.upto fnWaysSpec)

/-- 'laws.FnProofs', WHERE WHAT IT READS IS OF BULK AT MOST 1048576: true; the input reads as it did. -/
def fnProofsUptoRow : OpenClaim := { program := "ytianfakgojmnpaa", sum := "f8ca992489ffd89d2be0515b553180ec88b6d45a37c1ed45648c34f7a59633d4", func := "loop.example/g03302/laws.FnProofs", spec := "fnProofs", apart := false, narrowed := true }
def FnProofsUptoSaid : Prop := fnProofsUptoRow.holds Try.pinned (OpenSpec.upto fnProofsSpec)

end Rows
end Go.Proofs.Ytianfakgojmnpaa
