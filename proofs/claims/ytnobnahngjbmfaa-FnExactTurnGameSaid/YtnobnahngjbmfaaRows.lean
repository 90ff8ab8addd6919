/-
  No cell of these rows narrows 'for every input' (looked for: loops, veiled, ifaces, maps, wideKeys, modest, calm, conditions, laid).
  DERIVED. THE GIVEN ROWS OF THIS SEAT. 12 by the template 'for every input the law returns true; each argument reads behind the call as it read before'; 0 by the template 'total and deterministic' (their statements: YtnobnahngjbmfaaTotals.lean).
  GIVEN WITH THE SEED: the statements are not yours to turn. If you find one false, say at which input.
  Laid BY PROGRAM, IN A SANDBOX (cutbox-rows.mjs): the forced cells as the released guide's own fill.sh prints them over the translation 38f0386b158e10ad… (all of the seat's roots in one cut). By AI agents, Wed Nov 11 2026. No macro, syntax, notation, axiom, sorry.
-/
import Derived.Test.YtnobnahngjbmfaaChecked
import GoSem.Claim
import GoSem.ClaimJoined
import GoSem.ClaimMapViews
import Derived.JoinedTies
import Derived.KernelRfl
namespace Go.Proofs.Ytnobnahngjbmfaa
/- THE CELL 'sum', in the pinned program and in every row, IS THE sha256 OF THE DUMP (.gsa) THAT YtnobnahngjbmfaaProg.lean LOADS. Nothing in Lean hashes anything: it is a label: what it is worth is what the hold of that sum in a sandbox is worth. -/
noncomputable def Try.pinned : Pinned := { name := "ytnobnahngjbmfaa", sum := "38f0386b158e10ad40a5ad58edfe19001b317b45f21bd06e89393cf6aa70d84e", checked := Try.checked }
namespace Rows
def none {H : Type} : Left H := { results := [], args := [] }

/-- 'laws.FnExactGoldOk': WHATEVER THE INPUT: true; the input reads as it did. -/
def fnExactGoldOkSpec : ChangeSpec := { name := "fnExactGoldOk", fn := fun _ => fun
  | [d] => { results := [.lit (.bool true)], args := [d] }
  | _ => none }
def fnExactGoldOkRow : OpenClaim := { program := "ytnobnahngjbmfaa", sum := "38f0386b158e10ad40a5ad58edfe19001b317b45f21bd06e89393cf6aa70d84e", func := "loop.example/g03302/laws.FnExactGoldOk", spec := "fnExactGoldOk", apart := false }
def FnExactGoldOkSaid : Prop := fnExactGoldOkRow.holds Try.pinned (OpenSpec.ofChange fnExactGoldOkSpec)

/-- ITS FALSE NEIGHBOUR: 'it returns false'. Refute it at one input. -/
def fnExactGoldOkWrong : ChangeSpec := { name := "fnExactGoldOk", fn := fun _ => fun
  | [d] => { results := [.lit (.bool false)], args := [d] }
  | _ => none }
def FnExactGoldOkWrongFalsely : Prop := fnExactGoldOkRow.holds Try.pinned (OpenSpec.ofChange fnExactGoldOkWrong)

/-- 'laws.FnExactIsSmall': WHATEVER THE INPUT: true; the input reads as it did. -/
def fnExactIsSmallSpec : ChangeSpec := { name := "fnExactIsSmall", fn := fun _ => fun
  | [d] => { results := [.lit (.bool true)], args := [d] }
  | _ => none }
def fnExactIsSmallRow : OpenClaim := { program := "ytnobnahngjbmfaa", sum := "38f0386b158e10ad40a5ad58edfe19001b317b45f21bd06e89393cf6aa70d84e", func := "loop.example/g03302/laws.FnExactIsSmall", spec := "fnExactIsSmall", apart := false }
def FnExactIsSmallSaid : Prop := fnExactIsSmallRow.holds Try.pinned (OpenSpec.ofChange fnExactIsSmallSpec)

/-- ITS FALSE NEIGHBOUR: 'it returns false'. Refute it at one input. -/
def fnExactIsSmallWrong : ChangeSpec := { name := "fnExactIsSmall", fn := fun _ => fun
  | [d] => { results := [.lit (.bool false)], args := [d] }
  | _ => none }
def FnExactIsSmallWrongFalsely : Prop := fnExactIsSmallRow.holds Try.pinned (OpenSpec.ofChange fnExactIsSmallWrong)

/-- 'laws.FnExactPowerOf': WHATEVER THE INPUT: true; the input reads as it did. -/
def fnExactPowerOfSpec : ChangeSpec := { name := "fnExactPowerOf", fn := fun _ => fun
  | [d] => { results := [.lit (.bool true)], args := [d] }
  | _ => none }
def fnExactPowerOfRow : OpenClaim := { program := "ytnobnahngjbmfaa", sum := "38f0386b158e10ad40a5ad58edfe19001b317b45f21bd06e89393cf6aa70d84e", func := "loop.example/g03302/laws.FnExactPowerOf", spec := "fnExactPowerOf", apart := false }
def FnExactPowerOfSaid : Prop := fnExactPowerOfRow.holds Try.pinned (OpenSpec.ofChange fnExactPowerOfSpec)

/-- ITS FALSE NEIGHBOUR: 'it returns false'. Refute it at one input. -/
def fnExactPowerOfWrong : ChangeSpec := { name := "fnExactPowerOf", fn := fun _ => fun
  | [d] => { results := [.lit (.bool false)], args := [d] }
  | _ => none }
def FnExactPowerOfWrongFalsely : Prop := fnExactPowerOfRow.holds Try.pinned (OpenSpec.ofChange fnExactPowerOfWrong)

/-- 'laws.FnExactOtherOf': WHATEVER THE INPUT: true; the input reads as it did. -/
def fnExactOtherOfSpec : ChangeSpec := { name := "fnExactOtherOf", fn := fun _ => fun
  | [d1, d2] => { results := [.lit (.bool true)], args := [d1, d2] }
  | _ => none }
def fnExactOtherOfRow : OpenClaim := { program := "ytnobnahngjbmfaa", sum := "38f0386b158e10ad40a5ad58edfe19001b317b45f21bd06e89393cf6aa70d84e", func := "loop.example/g03302/laws.FnExactOtherOf", spec := "fnExactOtherOf", apart := false }
def FnExactOtherOfSaid : Prop := fnExactOtherOfRow.holds Try.pinned (OpenSpec.ofChange fnExactOtherOfSpec)

/-- ITS FALSE NEIGHBOUR: 'it returns false'. Refute it at one input. -/
def fnExactOtherOfWrong : ChangeSpec := { name := "fnExactOtherOf", fn := fun _ => fun
  | [d1, d2] => { results := [.lit (.bool false)], args := [d1, d2] }
  | _ => none }
def FnExactOtherOfWrongFalsely : Prop := fnExactOtherOfRow.holds Try.pinned (OpenSpec.ofChange fnExactOtherOfWrong)

/-- 'laws.FnExactAddGold': WHATEVER THE INPUT: true; the input reads as it did. -/
def fnExactAddGoldSpec : ChangeSpec := { name := "fnExactAddGold", fn := fun _ => fun
  | [d1, d2] => { results := [.lit (.bool true)], args := [d1, d2] }
  | _ => none }
def fnExactAddGoldRow : OpenClaim := { program := "ytnobnahngjbmfaa", sum := "38f0386b158e10ad40a5ad58edfe19001b317b45f21bd06e89393cf6aa70d84e", func := "loop.example/g03302/laws.FnExactAddGold", spec := "fnExactAddGold", apart := false }
def FnExactAddGoldSaid : Prop := fnExactAddGoldRow.holds Try.pinned (OpenSpec.ofChange fnExactAddGoldSpec)

/-- ITS FALSE NEIGHBOUR: 'it returns false'. Refute it at one input. -/
def fnExactAddGoldWrong : ChangeSpec := { name := "fnExactAddGold", fn := fun _ => fun
  | [d1, d2] => { results := [.lit (.bool false)], args := [d1, d2] }
  | _ => none }
def FnExactAddGoldWrongFalsely : Prop := fnExactAddGoldRow.holds Try.pinned (OpenSpec.ofChange fnExactAddGoldWrong)

/-- 'laws.FnExactIsComplement': WHATEVER THE INPUT: true; the input reads as it did. -/
def fnExactIsComplementSpec : ChangeSpec := { name := "fnExactIsComplement", fn := fun _ => fun
  | [d1, d2, d3] => { results := [.lit (.bool true)], args := [d1, d2, d3] }
  | _ => none }
def fnExactIsComplementRow : OpenClaim := { program := "ytnobnahngjbmfaa", sum := "38f0386b158e10ad40a5ad58edfe19001b317b45f21bd06e89393cf6aa70d84e", func := "loop.example/g03302/laws.FnExactIsComplement", spec := "fnExactIsComplement", apart := false }
def FnExactIsComplementSaid : Prop := fnExactIsComplementRow.holds Try.pinned (OpenSpec.ofChange fnExactIsComplementSpec)

/-- ITS FALSE NEIGHBOUR: 'it returns false'. Refute it at one input. -/
def fnExactIsComplementWrong : ChangeSpec := { name := "fnExactIsComplement", fn := fun _ => fun
  | [d1, d2, d3] => { results := [.lit (.bool false)], args := [d1, d2, d3] }
  | _ => none }
def FnExactIsComplementWrongFalsely : Prop := fnExactIsComplementRow.holds Try.pinned (OpenSpec.ofChange fnExactIsComplementWrong)

/-- 'laws.FnExactStepsBetween': WHATEVER THE INPUT: true; the input reads as it did. -/
def fnExactStepsBetweenSpec : ChangeSpec := { name := "fnExactStepsBetween", fn := fun _ => fun
  | [d1, d2, d3] => { results := [.lit (.bool true)], args := [d1, d2, d3] }
  | _ => none }
def fnExactStepsBetweenRow : OpenClaim := { program := "ytnobnahngjbmfaa", sum := "38f0386b158e10ad40a5ad58edfe19001b317b45f21bd06e89393cf6aa70d84e", func := "loop.example/g03302/laws.FnExactStepsBetween", spec := "fnExactStepsBetween", apart := false }
def FnExactStepsBetweenSaid : Prop := fnExactStepsBetweenRow.holds Try.pinned (OpenSpec.ofChange fnExactStepsBetweenSpec)

/-- ITS FALSE NEIGHBOUR: 'it returns false'. Refute it at one input. -/
def fnExactStepsBetweenWrong : ChangeSpec := { name := "fnExactStepsBetween", fn := fun _ => fun
  | [d1, d2, d3] => { results := [.lit (.bool false)], args := [d1, d2, d3] }
  | _ => none }
def FnExactStepsBetweenWrongFalsely : Prop := fnExactStepsBetweenRow.holds Try.pinned (OpenSpec.ofChange fnExactStepsBetweenWrong)

/-- 'laws.FnExactTimesGold': WHATEVER THE INPUT: true; the input reads as it did. -/
def fnExactTimesGoldSpec : ChangeSpec := { name := "fnExactTimesGold", fn := fun _ => fun
  | [d1, d2] => { results := [.lit (.bool true)], args := [d1, d2] }
  | _ => none }
def fnExactTimesGoldRow : OpenClaim := { program := "ytnobnahngjbmfaa", sum := "38f0386b158e10ad40a5ad58edfe19001b317b45f21bd06e89393cf6aa70d84e", func := "loop.example/g03302/laws.FnExactTimesGold", spec := "fnExactTimesGold", apart := false }
def FnExactTimesGoldSaid : Prop := fnExactTimesGoldRow.holds Try.pinned (OpenSpec.ofChange fnExactTimesGoldSpec)

/-- ITS FALSE NEIGHBOUR: 'it returns false'. Refute it at one input. -/
def fnExactTimesGoldWrong : ChangeSpec := { name := "fnExactTimesGold", fn := fun _ => fun
  | [d1, d2] => { results := [.lit (.bool false)], args := [d1, d2] }
  | _ => none }
def FnExactTimesGoldWrongFalsely : Prop := fnExactTimesGoldRow.holds Try.pinned (OpenSpec.ofChange fnExactTimesGoldWrong)

/-- 'laws.FnExactSignOf': WHATEVER THE INPUT: true; the input reads as it did. -/
def fnExactSignOfSpec : ChangeSpec := { name := "fnExactSignOf", fn := fun _ => fun
  | [d] => { results := [.lit (.bool true)], args := [d] }
  | _ => none }
def fnExactSignOfRow : OpenClaim := { program := "ytnobnahngjbmfaa", sum := "38f0386b158e10ad40a5ad58edfe19001b317b45f21bd06e89393cf6aa70d84e", func := "loop.example/g03302/laws.FnExactSignOf", spec := "fnExactSignOf", apart := false }
def FnExactSignOfSaid : Prop := fnExactSignOfRow.holds Try.pinned (OpenSpec.ofChange fnExactSignOfSpec)

/-- ITS FALSE NEIGHBOUR: 'it returns false'. Refute it at one input. -/
def fnExactSignOfWrong : ChangeSpec := { name := "fnExactSignOf", fn := fun _ => fun
  | [d] => { results := [.lit (.bool false)], args := [d] }
  | _ => none }
def FnExactSignOfWrongFalsely : Prop := fnExactSignOfRow.holds Try.pinned (OpenSpec.ofChange fnExactSignOfWrong)

/-- 'laws.FnExactCompareGold': WHATEVER THE INPUT: true; the input reads as it did. -/
def fnExactCompareGoldSpec : ChangeSpec := { name := "fnExactCompareGold", fn := fun _ => fun
  | [d1, d2] => { results := [.lit (.bool true)], args := [d1, d2] }
  | _ => none }
def fnExactCompareGoldRow : OpenClaim := { program := "ytnobnahngjbmfaa", sum := "38f0386b158e10ad40a5ad58edfe19001b317b45f21bd06e89393cf6aa70d84e", func := "loop.example/g03302/laws.FnExactCompareGold", spec := "fnExactCompareGold", apart := false }
def FnExactCompareGoldSaid : Prop := fnExactCompareGoldRow.holds Try.pinned (OpenSpec.ofChange fnExactCompareGoldSpec)

/-- ITS FALSE NEIGHBOUR: 'it returns false'. Refute it at one input. -/
def fnExactCompareGoldWrong : ChangeSpec := { name := "fnExactCompareGold", fn := fun _ => fun
  | [d1, d2] => { results := [.lit (.bool false)], args := [d1, d2] }
  | _ => none }
def FnExactCompareGoldWrongFalsely : Prop := fnExactCompareGoldRow.holds Try.pinned (OpenSpec.ofChange fnExactCompareGoldWrong)

/-- 'laws.FnExactGoldAt': WHATEVER THE INPUT: true; the input reads as it did. -/
def fnExactGoldAtSpec : ChangeSpec := { name := "fnExactGoldAt", fn := fun _ => fun
  | [d1, d2, d3] => { results := [.lit (.bool true)], args := [d1, d2, d3] }
  | _ => none }
def fnExactGoldAtRow : OpenClaim := { program := "ytnobnahngjbmfaa", sum := "38f0386b158e10ad40a5ad58edfe19001b317b45f21bd06e89393cf6aa70d84e", func := "loop.example/g03302/laws.FnExactGoldAt", spec := "fnExactGoldAt", apart := false }
def FnExactGoldAtSaid : Prop := fnExactGoldAtRow.holds Try.pinned (OpenSpec.ofChange fnExactGoldAtSpec)

/-- ITS FALSE NEIGHBOUR: 'it returns false'. Refute it at one input. -/
def fnExactGoldAtWrong : ChangeSpec := { name := "fnExactGoldAt", fn := fun _ => fun
  | [d1, d2, d3] => { results := [.lit (.bool false)], args := [d1, d2, d3] }
  | _ => none }
def FnExactGoldAtWrongFalsely : Prop := fnExactGoldAtRow.holds Try.pinned (OpenSpec.ofChange fnExactGoldAtWrong)

/-- 'laws.FnExactTurnGame': WHATEVER THE INPUT: true; the input reads as it did. -/
def fnExactTurnGameSpec : ChangeSpec := { name := "fnExactTurnGame", fn := fun _ => fun
  | [d] => { results := [.lit (.bool true)], args := [d] }
  | _ => none }
def fnExactTurnGameRow : OpenClaim := { program := "ytnobnahngjbmfaa", sum := "38f0386b158e10ad40a5ad58edfe19001b317b45f21bd06e89393cf6aa70d84e", func := "loop.example/g03302/laws.FnExactTurnGame", spec := "fnExactTurnGame", apart := false }
def FnExactTurnGameSaid : Prop := fnExactTurnGameRow.holds Try.pinned (OpenSpec.ofChange fnExactTurnGameSpec)

/-- ITS FALSE NEIGHBOUR: 'it returns false'. Refute it at one input. -/
def fnExactTurnGameWrong : ChangeSpec := { name := "fnExactTurnGame", fn := fun _ => fun
  | [d] => { results := [.lit (.bool false)], args := [d] }
  | _ => none }
def FnExactTurnGameWrongFalsely : Prop := fnExactTurnGameRow.holds Try.pinned (OpenSpec.ofChange fnExactTurnGameWrong)

/- THE SECOND FORM. 'bulk': how many values and letters a reading holds, each counted each time it is reached (what is shared counts as often as it is met; a slice's spare places count too). A statement '..UptoSaid' is the law's where the arguments, and the package variables that the reading takes, are together of bulk at most 1048576: NARROWER than '..Said'. Prove '..Said' where nothing that the law and all that it calls make is longer than what came in: it says more and counts as full. Else prove '..UptoSaid'. A law counts once. -/
mutual
def uptoBulk {H : Type} : DataW H → Nat
  | .lit (.string bytes) => bytes.length + 1
  | .lit _ => 1
  | .nil => 1
  | .ptr d => uptoBulk d + 1
  | .slice elems spare => uptoBulkAll elems + uptoBulkAll spare + 1
  | .agg parts => uptoBulkAll parts + 1
  | .iface _ d => uptoBulk d + 1
  | .map entries => uptoBulkEntries entries + 1
  | .held _ => 1
def uptoBulkAll {H : Type} : List (DataW H) → Nat
  | [] => 0
  | d :: r => uptoBulk d + uptoBulkAll r
def uptoBulkEntries {H : Type} : List (Lit × DataW H) → Nat
  | [] => 0
  | x :: r => uptoBulkEntry x + uptoBulkEntries r
def uptoBulkEntry {H : Type} : Lit × DataW H → Nat
  | (.string bytes, d) => bytes.length + uptoBulk d + 1
  | (_, d) => uptoBulk d + 1
 end
def uptoSmall : (H : Type) → List (DataW H) → Bool := fun _ ds => decide (uptoBulkAll ds ≤ 1048576)
def OpenSpec.upto (s : _root_.Go.ChangeSpec) : _root_.Go.OpenSpec := { _root_.Go.OpenSpec.ofChange s with cond := some uptoSmall }

/-- 'laws.FnExactGoldOk', WHERE WHAT IT READS IS OF BULK AT MOST 1048576: true; the input reads as it did. -/
def fnExactGoldOkUptoRow : OpenClaim := { program := "ytnobnahngjbmfaa", sum := "38f0386b158e10ad40a5ad58edfe19001b317b45f21bd06e89393cf6aa70d84e", func := "loop.example/g03302/laws.FnExactGoldOk", spec := "fnExactGoldOk", apart := false, narrowed := true }
def FnExactGoldOkUptoSaid : Prop := fnExactGoldOkUptoRow.holds Try.pinned (OpenSpec.upto fnExactGoldOkSpec)

/-- 'laws.FnExactIsSmall', WHERE WHAT IT READS IS OF BULK AT MOST 1048576: true; the input reads as it did. -/
def fnExactIsSmallUptoRow : OpenClaim := { program := "ytnobnahngjbmfaa", sum := "38f0386b158e10ad40a5ad58edfe19001b317b45f21bd06e89393cf6aa70d84e", func := "loop.example/g03302/laws.FnExactIsSmall", spec := "fnExactIsSmall", apart := false, narrowed := true }
def FnExactIsSmallUptoSaid : Prop := fnExactIsSmallUptoRow.holds Try.pinned (OpenSpec.upto fnExactIsSmallSpec)

/-- 'laws.FnExactPowerOf', WHERE WHAT IT READS IS OF BULK AT MOST 1048576: true; the input reads as it did. -/
def fnExactPowerOfUptoRow : OpenClaim := { program := "ytnobnahngjbmfaa", sum := "38f0386b158e10ad40a5ad58edfe19001b317b45f21bd06e89393cf6aa70d84e", func := "loop.example/g03302/laws.FnExactPowerOf", spec := "fnExactPowerOf", apart := false, narrowed := true }
def FnExactPowerOfUptoSaid : Prop := fnExactPowerOfUptoRow.holds Try.pinned (OpenSpec.upto fnExactPowerOfSpec)

/-- 'laws.FnExactOtherOf', WHERE WHAT IT READS IS OF BULK AT MOST 1048576: true; the input reads as it did. -/
def fnExactOtherOfUptoRow : OpenClaim := { program := "ytnobnahngjbmfaa", sum := "38f0386b158e10ad40a5ad58edfe19001b317b45f21bd06e89393cf6aa70d84e", func := "loop.example/g03302/laws.FnExactOtherOf", spec := "fnExactOtherOf", apart := false, narrowed := true }
def FnExactOtherOfUptoSaid : Prop := fnExactOtherOfUptoRow.holds Try.pinned (OpenSpec.upto fnExactOtherOfSpec)

/-- 'laws.FnExactAddGold', WHERE WHAT IT READS IS OF BULK AT MOST 1048576: true; the input reads as it did. -/
def fnExactAddGoldUptoRow : OpenClaim := { program := "ytnobnahngjbmfaa", sum := "38f0386b158e10ad40a5ad58edfe19001b317b45f21bd06e89393cf6aa70d84e", func := "loop.example/g03302/laws.FnExactAddGold", spec := "fnExactAddGold", apart := false, narrowed := true }
def FnExactAddGoldUptoSaid : Prop := fnExactAddGoldUptoRow.holds Try.pinned (OpenSpec.upto fnExactAddGoldSpec)

/-- 'laws.FnExactIsComplement', WHERE WHAT IT READS IS OF BULK AT MOST 1048576: true; the input reads as it did. -/
def fnExactIsComplementUptoRow : OpenClaim := { program := "ytnobnahngjbmfaa", sum := "38f0386b158e10ad40a5ad58edfe19001b317b45f21bd06e89393cf6aa70d84e", func := "loop.example/g03302/laws.FnExactIsComplement", spec := "fnExactIsComplement", apart := false, narrowed := true }
def FnExactIsComplementUptoSaid : Prop := fnExactIsComplementUptoRow.holds Try.pinned (OpenSpec.upto fnExactIsComplementSpec)

/-- 'laws.FnExactStepsBetween', WHERE WHAT IT READS IS OF BULK AT MOST 1048576: true; the input reads as it did. -/
def fnExactStepsBetweenUptoRow : OpenClaim := { program := "ytnobnahngjbmfaa", sum := "38f0386b158e10ad40a5ad58edfe19001b317b45f21bd06e89393cf6aa70d84e", func := "loop.example/g03302/laws.FnExactStepsBetween", spec := "fnExactStepsBetween", apart := false, narrowed := true }
def FnExactStepsBetweenUptoSaid : Prop := fnExactStepsBetweenUptoRow.holds Try.pinned (OpenSpec.upto fnExactStepsBetweenSpec)

/-- 'laws.FnExactTimesGold', WHERE WHAT IT READS IS OF BULK AT MOST 1048576: true; the input reads as it did. -/
def fnExactTimesGoldUptoRow : OpenClaim := { program := "ytnobnahngjbmfaa", sum := "38f0386b158e10ad40a5ad58edfe19001b317b45f21bd06e89393cf6aa70d84e", func := "loop.example/g03302/laws.FnExactTimesGold", spec := "fnExactTimesGold", apart := false, narrowed := true }
def FnExactTimesGoldUptoSaid : Prop := fnExactTimesGoldUptoRow.holds Try.pinned (OpenSpec.upto fnExactTimesGoldSpec)

/-- 'laws.FnExactSignOf', WHERE WHAT IT READS IS OF BULK AT MOST 1048576: true; the input reads as it did. -/
def fnExactSignOfUptoRow : OpenClaim := { program := "ytnobnahngjbmfaa", sum := "38f0386b158e10ad40a5ad58edfe19001b317b45f21bd06e89393cf6aa70d84e", func := "loop.example/g03302/laws.FnExactSignOf", spec := "fnExactSignOf", apart := false, narrowed := true }
def FnExactSignOfUptoSaid : Prop := fnExactSignOfUptoRow.holds Try.pinned (OpenSpec.upto fnExactSignOfSpec)

/-- 'laws.FnExactCompareGold', WHERE WHAT IT READS IS OF BULK AT MOST 1048576: true; the input reads as it did. -/
def fnExactCompareGoldUptoRow : OpenClaim := { program := "ytnobnahngjbmfaa", sum := "38f0386b158e10ad40a5ad58edfe19001b317b45f21bd06e89393cf6aa70d84e", func := "loop.example/g03302/laws.FnExactCompareGold", spec := "fnExactCompareGold", apart := false, narrowed := true }
def FnExactCompareGoldUptoSaid : Prop := fnExactCompareGoldUptoRow.holds Try.pinned (OpenSpec.upto fnExactCompareGoldSpec)

/-- 'laws.FnExactGoldAt', WHERE WHAT IT READS IS OF BULK AT MOST 1048576: true; the input reads as it did. -/
def fnExactGoldAtUptoRow : OpenClaim := { program := "ytnobnahngjbmfaa", sum := "38f0386b158e10ad40a5ad58edfe19001b317b45f21bd06e89393cf6aa70d84e", func := "loop.example/g03302/laws.FnExactGoldAt", spec := "fnExactGoldAt", apart := false, narrowed := true }
def FnExactGoldAtUptoSaid : Prop := fnExactGoldAtUptoRow.holds Try.pinned (OpenSpec.upto fnExactGoldAtSpec)

/-- 'laws.FnExactTurnGame', WHERE WHAT IT READS IS OF BULK AT MOST 1048576: true; the input reads as it did. -/
def fnExactTurnGameUptoRow : OpenClaim := { program := "ytnobnahngjbmfaa", sum := "38f0386b158e10ad40a5ad58edfe19001b317b45f21bd06e89393cf6aa70d84e", func := "loop.example/g03302/laws.FnExactTurnGame", spec := "fnExactTurnGame", apart := false, narrowed := true }
def FnExactTurnGameUptoSaid : Prop := fnExactTurnGameUptoRow.holds Try.pinned (OpenSpec.upto fnExactTurnGameSpec)

end Rows
end Go.Proofs.Ytnobnahngjbmfaa
